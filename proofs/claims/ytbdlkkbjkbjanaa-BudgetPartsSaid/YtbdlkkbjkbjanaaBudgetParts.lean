/-
  BudgetParts: the walk.
-/
import Derived.Test.YtbdlkkbjkbjanaaBudget2
namespace Go.Proofs.Ytbdlkkbjkbjanaa
open Go.RowKit

/-- Two budgets, the second made behind the first. -/
structure Two (w0 w : World) (b s c t : Nat) (g l gr pd l' gr' pd' : Int) : Prop where
  u : Bud w b s g l gr pd
  v : Bud w c t g l' gr' pd'
  bel : Below w0.heap.size w0 w
  le : w0.heap.size ≤ s
  ap : b < t
theorem Two.one {w0 w w' : World} {b s c t : Nat} {g l gr pd l' gr' pd' l2 gr2 pd2 : Int} (h : Two w0 w b s c t g l gr pd l' gr' pd') (k : Wrote (atBud b s) w w') (hb : Bud w' b s g l2 gr2 pd2) : Two w0 w' b s c t g l2 gr2 pd2 l' gr' pd' :=
  ⟨hb, h.v.kept k (by have := h.ap; have := h.v.ne; have := h.u.ne; unfold atBud; omega) (by have := h.ap; have := h.v.ne; have := h.u.ne; unfold atBud; omega),
    Wrote.below h.bel k (fun i hi => by have := h.le; have := h.u.ne; unfold atBud at hi; omega), h.le, h.ap⟩
theorem Two.two {w0 w w' : World} {b s c t : Nat} {g l gr pd l' gr' pd' l2 gr2 pd2 : Int} (h : Two w0 w b s c t g l gr pd l' gr' pd') (k : Wrote (atBud c t) w w') (hb : Bud w' c t g l2 gr2 pd2) : Two w0 w' b s c t g l gr pd l2 gr2 pd2 :=
  ⟨h.u.kept k (by have := h.ap; have := h.v.ne; have := h.u.ne; unfold atBud; omega) (by have := h.ap; have := h.v.ne; have := h.u.ne; unfold atBud; omega), hb,
    Wrote.below h.bel k (fun i hi => by have := h.le; have := h.ap; have := h.v.ne; have := h.u.ne; unfold atBud at hi; omega), h.le, h.ap⟩
theorem Two.quiet {w0 w w' : World} {b s c t : Nat} {g l gr pd l' gr' pd' : Int} (h : Two w0 w b s c t g l gr pd l' gr' pd') (k : Wrote (fun _ => False) w w') : Two w0 w' b s c t g l gr pd l' gr' pd' :=
  ⟨h.u.kept k (fun h => h) (fun h => h), h.v.kept k (fun h => h) (fun h => h), Wrote.below h.bel k (fun _ hi => hi.elim), h.le, h.ap⟩

section
variable (w0 : World) (b s c t : Nat) (g l gr pd l' gr' pd' : Int) (w : World) (h : Hid (Two w0 w b s c t g l gr pd l' gr' pd'))
include h
theorem x1tick (l2 gr2 : Int) (hl : l + tickN g l = l2) (hr : addC gr (tickN g l) = gr2) :
    Calls Try.prog 17 #[.pointer (some ⟨b, 0, none⟩)] w fun e w' => e = .returned (.tuple #[]) ∧ Hid (Two w0 w' b s c t g l2 gr2 pd l' gr' pd') := by
  subst hl hr
  exact (utick b s g l gr pd w h.out.u).mono fun _ _ ⟨he, k, hb⟩ => ⟨he, Lib.hid (h.out.one k hb)⟩
theorem x2tick (l2 gr2 : Int) (hl : l' + tickN g l' = l2) (hr : addC gr' (tickN g l') = gr2) :
    Calls Try.prog 17 #[.pointer (some ⟨c, 0, none⟩)] w fun e w' => e = .returned (.tuple #[]) ∧ Hid (Two w0 w' b s c t g l gr pd l2 gr2 pd') := by
  subst hl hr
  exact (utick c t g l' gr' pd' w h.out.v).mono fun _ _ ⟨he, k, hb⟩ => ⟨he, Lib.hid (h.out.two k hb)⟩
theorem x1pay (n l2 pd2 : Int) (v : Bool) (hv : mayP n l = v) (hl : leftP n l = l2) (hp : paidP n l pd = pd2) :
    Calls Try.prog 19 #[.pointer (some ⟨b, 0, none⟩), .int .i64 n] w fun e w' => e = .returned (.bool v) ∧ Hid (Two w0 w' b s c t g l2 gr pd2 l' gr' pd') := by
  subst hv hl hp
  exact (upay b s n g l gr pd w h.out.u).mono fun _ _ ⟨he, k, hb⟩ => ⟨he, Lib.hid (h.out.one k hb)⟩
theorem x2pay (n l2 pd2 : Int) (v : Bool) (hv : mayP n l' = v) (hl : leftP n l' = l2) (hp : paidP n l' pd' = pd2) :
    Calls Try.prog 19 #[.pointer (some ⟨c, 0, none⟩), .int .i64 n] w fun e w' => e = .returned (.bool v) ∧ Hid (Two w0 w' b s c t g l gr pd l2 gr' pd2) := by
  subst hv hl hp
  exact (upay c t n g l' gr' pd' w h.out.v).mono fun _ _ ⟨he, k, hb⟩ => ⟨he, Lib.hid (h.out.two k hb)⟩
theorem x1left : Calls Try.prog 21 #[.pointer (some ⟨b, 0, none⟩)] w fun e w' => e = .returned (.int .i64 l) ∧ Hid (Two w0 w' b s c t g l gr pd l' gr' pd') :=
  (uleft b s g l gr pd w h.out.u).mono fun _ _ ⟨he, k⟩ => ⟨he, Lib.hid (h.out.quiet k)⟩
theorem x2left : Calls Try.prog 21 #[.pointer (some ⟨c, 0, none⟩)] w fun e w' => e = .returned (.int .i64 l') ∧ Hid (Two w0 w' b s c t g l gr pd l' gr' pd') :=
  (uleft c t g l' gr' pd' w h.out.v).mono fun _ _ ⟨he, k⟩ => ⟨he, Lib.hid (h.out.quiet k)⟩
theorem x1granted : Calls Try.prog 22 #[.pointer (some ⟨b, 0, none⟩)] w fun e w' => e = .returned (.int .u64 gr) ∧ Hid (Two w0 w' b s c t g l gr pd l' gr' pd') :=
  (ugranted b s g l gr pd w h.out.u).mono fun _ _ ⟨he, k⟩ => ⟨he, Lib.hid (h.out.quiet k)⟩
theorem x2granted : Calls Try.prog 22 #[.pointer (some ⟨c, 0, none⟩)] w fun e w' => e = .returned (.int .u64 gr') ∧ Hid (Two w0 w' b s c t g l gr pd l' gr' pd') :=
  (ugranted c t g l' gr' pd' w h.out.v).mono fun _ _ ⟨he, k⟩ => ⟨he, Lib.hid (h.out.quiet k)⟩
theorem x1paid : Calls Try.prog 23 #[.pointer (some ⟨b, 0, none⟩)] w fun e w' => e = .returned (.int .u64 pd) ∧ Hid (Two w0 w' b s c t g l gr pd l' gr' pd') :=
  (upaid b s g l gr pd w h.out.u).mono fun _ _ ⟨he, k⟩ => ⟨he, Lib.hid (h.out.quiet k)⟩
theorem x2paid : Calls Try.prog 23 #[.pointer (some ⟨c, 0, none⟩)] w fun e w' => e = .returned (.int .u64 pd') ∧ Hid (Two w0 w' b s c t g l gr pd l' gr' pd') :=
  (upaid c t g l' gr' pd' w h.out.v).mono fun _ _ ⟨he, k⟩ => ⟨he, Lib.hid (h.out.quiet k)⟩
end

set_option maxRecDepth 100000 in
set_option maxHeartbeats 400000 in
theorem budgetParts_walk (a0 a1 a2 : Int) (w : World) (h1 : 0 ≤ a0) (h2 : a0 ≤ 65535) (h3 : 0 ≤ a1) (h4 : a1 ≤ 65535) (h5 : 0 ≤ a2) (h6 : a2 ≤ 65535) :
    Calls Try.prog 6 #[.int .u16 a0, .int .u16 a1, .int .u16 a2] w fun e w' => e = .returned (.bool true) ∧ Below w.heap.size w w' := by
  obtain ⟨g, hg⟩ : ∃ g : Int, g = 1 + a0 % 10000 := ⟨_, rfl⟩
  have hg1 : 1 ≤ g := by omega
  have hg2 : g ≤ 10000 := by omega
  obtain ⟨n, hn⟩ : ∃ n : Int, n = 1 + a1 % (2 * g) := ⟨_, rfl⟩
  obtain ⟨m, hm⟩ : ∃ m : Int, m = 1 + a2 % (2 * g) := ⟨_, rfl⟩
  have hn1 : 1 ≤ n := by have : 0 ≤ a1 % (2 * g) := Int.emod_nonneg _ (by omega); omega
  have hn2 : n ≤ 20000 := by have : a1 % (2 * g) < 2 * g := Int.emod_lt_of_pos _ (by omega); omega
  have hm1 : 1 ≤ m := by have : 0 ≤ a2 % (2 * g) := Int.emod_nonneg _ (by omega); omega
  have hm2 : m ≤ 20000 := by have : a2 % (2 * g) < 2 * g := Int.emod_lt_of_pos _ (by omega); omega
  have hg0 : (2 * g == 0) = false := by simp; omega
  have hg3 : 0 ≤ 2 * g := by omega
  have hr1 : 0 ≤ a1 % (2 * g) := by omega
  have hr2 : a1 % (2 * g) ≤ 20000 := by omega
  have hr3 : 0 ≤ a2 % (2 * g) := by omega
  have hr4 : a2 % (2 * g) ≤ 20000 := by omega
  have HG := Lib.hid hg
  have HN := Lib.hid hn
  have HM := Lib.hid hm
  clear hg hn hm
  go_enter Try.func6, Try.ntmps6
  go_wp2_with fail
  refine (works20 _).mono ?_
  rintro e w1 ⟨rfl, q1⟩
  go_wp2_with fail
  rw [← HG.out]
  refine (unew g _ (by omega) (by omega)).mono ?_
  rintro e w2 ⟨rfl, q2, u2⟩
  go_wp2_with fail
  refine (unew g _ (by omega) (by omega)).mono ?_
  rintro e w3 ⟨rfl, q3, u3⟩
  obtain ⟨s, hs⟩ : ∃ s, s = w1.heap.size := ⟨_, rfl⟩
  obtain ⟨t, ht⟩ : ∃ t, t = w2.heap.size := ⟨_, rfl⟩
  have H3 : Hid (Two w w3 (s + 1) s (t + 1) t g 0 0 0 0 0 0) := Lib.hid (by
    rw [hs, ht]
    exact ⟨u2.kept (Wrote.ofBelow q3 (fun _ => False)) (fun h => h) (fun h => h), u3, bthen (bthen q1 q2) q3, q1.size, u2.B.lt⟩)
  rw [← hs, ← ht]
  clear hs ht u2 u3 q1 q2 q3
  go_wp2_with fail
  go_loopw [10] (fun i wr => ∃ (k : Nat) (l : Int), (k : Int) ≤ 3 ∧ i = .int .i64 k ∧ Hid (l = k * g) ∧ Hid (Two w wr (s + 1) s (t + 1) t g l l 0 l l 0)) (fun i _ => (3 - intOf i).toNat)
  case atStart => exact ⟨0, 0, by omega, rfl, Lib.hid (by simp), H3⟩
  case round =>
    obtain ⟨k, l, hk, rfl, hl, hp⟩ := hrel
    clear H3
    by_cases hlt : k < 3
    · have hl2 : 0 ≤ l ∧ l ≤ 20000 := by
        rw [hl.out]
        match k, hlt with
        | 0, _ => simp
        | 1, _ => simp; omega
        | 2, _ => simp; omega
      have ht : tickN g l = g := by unfold tickN; rw [if_pos (by omega)]
      have ha : addC l (tickN g l) = l + g := by rw [ht]; unfold addC; rw [if_neg (by omega)]
      go_wp2_with fail
      refine (x1tick w _ _ _ _ _ _ _ _ _ _ _ _ hp (l + g) (l + g) (by rw [ht]) ha).mono ?_
      rintro e w4 ⟨rfl, h4⟩
      go_wp2_with fail
      refine (x2tick w _ _ _ _ _ _ _ _ _ _ _ _ h4 (l + g) (l + g) (by rw [ht]) ha).mono ?_
      rintro e w5 ⟨rfl, h5⟩
      go_wp2_with fail
      refine ⟨⟨k + 1, l + g, by omega, by go_num, Lib.hid (by rw [hl.out]; push_cast; rw [Int.add_mul, Int.one_mul]), h5⟩, by simp [intOf]; omega⟩
    · obtain rfl : k = 3 := by omega
      obtain rfl : l = 3 * g := hl.out
      go_wp2
      go_quiet (fail)
      rw [← HN.out, ← HM.out]
      have hq : Hid (Two w (wr.drewN nq) (s + 1) s (t + 1) t g (3 * g) (3 * g) 0 (3 * g) (3 * g) 0) := Lib.hid (hp.out.quiet ⟨rfl, rfl, rfl, Nat.le_refl _, fun _ _ _ => rfl⟩)
      clear hp hr1 hr2 hr3 hr4 hg0 hg3 hl
      by_cases hov : 3 * g < n + m
      · have hno : mayP (n + m) (3 * g) = false := mayP_no (by omega)
        go_wp2_with fail
        refine (x1left w _ _ _ _ _ _ _ _ _ _ _ _ hq).mono ?_
        rintro e w4 ⟨rfl, h4⟩
        go_wp2_with fail
        refine (x1pay w _ _ _ _ _ _ _ _ _ _ _ _ h4 (n + m) (3 * g) 0 false hno (by unfold leftP; rw [if_neg (by rw [hno]; decide)]) (by unfold paidP; rw [if_neg (by rw [hno]; decide)])).mono ?_
        rintro e w5 ⟨rfl, h5⟩
        go_wp2_with fail
        refine (x1left w _ _ _ _ _ _ _ _ _ _ _ _ h5).mono ?_
        rintro e w6 ⟨rfl, h6⟩
        go_wp2_with fail
        go_returns
        exact ⟨rfl, h6.out.bel⟩
      · have y1 : mayP (n + m) (3 * g) = true := mayP_yes (by omega) (by omega)
        have y2 : mayP n (3 * g) = true := mayP_yes (by omega) (by omega)
        have y3 : mayP m (3 * g - n) = true := mayP_yes (by omega) (by omega)
        have z1 : addC 0 (n + m) = n + m := by unfold addC; rw [if_neg (by omega)]; omega
        have z2 : addC 0 n = n := by unfold addC; rw [if_neg (by omega)]; omega
        have z3 : addC n m = n + m := by unfold addC; rw [if_neg (by omega)]
        have Y1 := Lib.hid y1
        have Y2 := Lib.hid y2
        have Y3 := Lib.hid y3
        have Z1 := Lib.hid z1
        have Z2 := Lib.hid z2
        have Z3 := Lib.hid z3
        clear y1 y2 y3 z1 z2 z3
        go_wp2_with fail
        refine (x1left w _ _ _ _ _ _ _ _ _ _ _ _ hq).mono ?_
        rintro e w4 ⟨rfl, h4⟩
        go_wp2_with fail
        refine (x1pay w _ _ _ _ _ _ _ _ _ _ _ _ h4 (n + m) (3 * g - (n + m)) (n + m) true Y1.out (by unfold leftP; rw [if_pos Y1.out]) (by unfold paidP; rw [if_pos Y1.out, Z1.out])).mono ?_
        rintro e w5 ⟨rfl, h5⟩
        go_wp2_with fail
        refine (x2pay w _ _ _ _ _ _ _ _ _ _ _ _ h5 n (3 * g - n) n true Y2.out (by unfold leftP; rw [if_pos Y2.out]) (by unfold paidP; rw [if_pos Y2.out, Z2.out])).mono ?_
        rintro e w6 ⟨rfl, h6⟩
        go_wp2_with fail
        refine (x2pay w _ _ _ _ _ _ _ _ _ _ _ _ h6 m (3 * g - n - m) (n + m) true Y3.out (by unfold leftP; rw [if_pos Y3.out]) (by unfold paidP; rw [if_pos Y3.out, Z3.out])).mono ?_
        rintro e w7 ⟨rfl, h7⟩
        go_wp2_with fail
        refine (x1left w _ _ _ _ _ _ _ _ _ _ _ _ h7).mono ?_
        rintro e w8 ⟨rfl, h8⟩
        go_wp2_with fail
        refine (x2left w _ _ _ _ _ _ _ _ _ _ _ _ h8).mono ?_
        rintro e w9 ⟨rfl, h9⟩
        have hsub : 3 * g - (n + m) = 3 * g - n - m := by omega
        go_wp2_with fail
        refine (x1left w _ _ _ _ _ _ _ _ _ _ _ _ h9).mono ?_
        rintro e w10 ⟨rfl, h10⟩
        go_wp2_with fail
        refine (x1paid w _ _ _ _ _ _ _ _ _ _ _ _ h10).mono ?_
        rintro e w11 ⟨rfl, h11⟩
        go_wp2_with fail
        refine (x2paid w _ _ _ _ _ _ _ _ _ _ _ _ h11).mono ?_
        rintro e w12 ⟨rfl, h12⟩
        go_wp2_with fail
        refine (x1granted w _ _ _ _ _ _ _ _ _ _ _ _ h12).mono ?_
        rintro e w13 ⟨rfl, h13⟩
        go_wp2_with fail
        refine (x2granted w _ _ _ _ _ _ _ _ _ _ _ _ h13).mono ?_
        rintro e w14 ⟨rfl, h14⟩
        go_wp2_with fail
        go_returns
        exact ⟨rfl, h14.out.bel⟩

end Go.Proofs.Ytbdlkkbjkbjanaa
