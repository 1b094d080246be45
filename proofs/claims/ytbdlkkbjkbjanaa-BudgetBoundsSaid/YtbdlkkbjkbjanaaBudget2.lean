/-
  budget.Budget, the exported functions; aerialref20.Budget.
-/
import Derived.Test.YtbdlkkbjkbjanaaBudget
namespace Go.Proofs.Ytbdlkkbjkbjanaa
open Go.RowKit

set_option maxRecDepth 100000 in
set_option maxHeartbeats 400000 in
theorem upay (b s : Nat) (n g l gr pd : Int) (w : World) (h : Bud w b s g l gr pd) :
    Calls Try.prog 19 #[.pointer (some ⟨b, 0, none⟩), .int .i64 n] w fun e w' => e = .returned (.bool (mayP n l)) ∧ Wrote (atBud b s) w w' ∧ Bud w' b s g (leftP n l) gr (paidP n l pd) := by
  have hmf := makeFunc_run
  have hlt := h.B.lt
  have hlt2 := h.S.lt
  have H2 := Lib.hid ((h.alloc (.cells #[.pointer (some ⟨b, 0, none⟩)] 23)).alloc (.cells #[.int .i64 n] 3))
  have hc1 := Lib.hid (new_cell2 w #[.pointer (some ⟨b, 0, none⟩)] 23 0 _ (.cells #[.int .i64 n] 3) rfl)
  have hc2 := Lib.hid (new_cell (w.alloc (.cells #[.pointer (some ⟨b, 0, none⟩)] 23)) #[.int .i64 n] 3 0 _ rfl)
  have hs : (w.alloc (.cells #[.pointer (some ⟨b, 0, none⟩)] 23)).heap.size = w.heap.size + 1 := by simp
  rw [hs] at hc2
  clear h hs
  go_enter Try.func19, Try.ntmps19
  go_wp2_with fail
  refine (is_pay b s _ _ _ (H2.out.B.cell 0 rfl) _ (payDo w.heap.size (w.heap.size + 1) b s n g l gr pd _ H2.out hc2.out hc1.out (by omega) (by omega) (by omega) (by omega))).mono ?_
  rintro e w1 ⟨rfl, k, hb⟩
  go_wp2
  go_returns
  exact ⟨rfl, ((Wrote.alloc _ w _).trans (Wrote.alloc _ _ _)).trans k, hb⟩

set_option maxRecDepth 100000 in
set_option maxHeartbeats 400000 in
theorem leftDo (c b s : Nat) (g l gr pd : Int) (w : World) (h : Bud w b s g l gr pd) (hc : w.cell? ⟨c, 0, none⟩ = some (.pointer (some ⟨b, 0, none⟩))) :
    Calls Try.prog 42 #[.pointer (some ⟨c, 0, none⟩)] w fun e w' => e = .returned (.int .i64 l) ∧ w = w' := by
  have c2 := h.B.cell 2 rfl
  clear h
  go_enter Try.func42, Try.ntmps42
  go_wp2
  go_returns
  exact ⟨rfl, rfl⟩

set_option maxRecDepth 100000 in
set_option maxHeartbeats 400000 in
theorem uleft (b s : Nat) (g l gr pd : Int) (w : World) (h : Bud w b s g l gr pd) :
    Calls Try.prog 21 #[.pointer (some ⟨b, 0, none⟩)] w fun e w' => e = .returned (.int .i64 l) ∧ Wrote (fun _ => False) w w' := by
  have hmf := makeFunc_run
  have H2 := Lib.hid (h.alloc (.cells #[.pointer (some ⟨b, 0, none⟩)] 23))
  have hc := Lib.hid (new_cell w #[.pointer (some ⟨b, 0, none⟩)] 23 0 _ rfl)
  clear h
  go_enter Try.func21, Try.ntmps21
  go_wp2_with fail
  refine (is_left b s _ _ _ (H2.out.B.cell 0 rfl) _ (leftDo w.heap.size b s g l gr pd _ H2.out hc.out)).mono ?_
  rintro e _ ⟨rfl, rfl⟩
  go_wp2
  go_returns
  exact ⟨rfl, Wrote.alloc _ w _⟩

set_option maxRecDepth 100000 in
set_option maxHeartbeats 400000 in
theorem grantedDo (c b s : Nat) (g l gr pd : Int) (w : World) (h : Bud w b s g l gr pd) (hc : w.cell? ⟨c, 0, none⟩ = some (.pointer (some ⟨b, 0, none⟩))) :
    Calls Try.prog 44 #[.pointer (some ⟨c, 0, none⟩)] w fun e w' => e = .returned (.int .u64 gr) ∧ w = w' := by
  have c0 := h.B.cell 0 rfl
  have HS := Lib.hid (h.S.cell 0 rfl)
  clear h
  go_enter Try.func44, Try.ntmps44
  go_wp2_with fail
  refine (cn s 0 gr _ HS.out).mono ?_
  rintro e _ ⟨rfl, rfl⟩
  go_wp2
  go_returns
  exact ⟨rfl, rfl⟩

set_option maxRecDepth 100000 in
set_option maxHeartbeats 400000 in
theorem ugranted (b s : Nat) (g l gr pd : Int) (w : World) (h : Bud w b s g l gr pd) :
    Calls Try.prog 22 #[.pointer (some ⟨b, 0, none⟩)] w fun e w' => e = .returned (.int .u64 gr) ∧ Wrote (fun _ => False) w w' := by
  have hmf := makeFunc_run
  have H2 := Lib.hid (h.alloc (.cells #[.pointer (some ⟨b, 0, none⟩)] 23))
  have hc := Lib.hid (new_cell w #[.pointer (some ⟨b, 0, none⟩)] 23 0 _ rfl)
  clear h
  go_enter Try.func22, Try.ntmps22
  go_wp2_with fail
  refine (is_granted b s _ _ _ (H2.out.B.cell 0 rfl) _ (grantedDo w.heap.size b s g l gr pd _ H2.out hc.out)).mono ?_
  rintro e _ ⟨rfl, rfl⟩
  go_wp2
  go_returns
  exact ⟨rfl, Wrote.alloc _ w _⟩

set_option maxRecDepth 100000 in
set_option maxHeartbeats 400000 in
theorem paidDo (c b s : Nat) (g l gr pd : Int) (w : World) (h : Bud w b s g l gr pd) (hc : w.cell? ⟨c, 0, none⟩ = some (.pointer (some ⟨b, 0, none⟩))) :
    Calls Try.prog 45 #[.pointer (some ⟨c, 0, none⟩)] w fun e w' => e = .returned (.int .u64 pd) ∧ w = w' := by
  have c0 := h.B.cell 0 rfl
  have HS := Lib.hid (h.S.cell 1 rfl)
  clear h
  go_enter Try.func45, Try.ntmps45
  go_wp2_with fail
  refine (cn s 1 pd _ HS.out).mono ?_
  rintro e _ ⟨rfl, rfl⟩
  go_wp2
  go_returns
  exact ⟨rfl, rfl⟩

set_option maxRecDepth 100000 in
set_option maxHeartbeats 400000 in
theorem upaid (b s : Nat) (g l gr pd : Int) (w : World) (h : Bud w b s g l gr pd) :
    Calls Try.prog 23 #[.pointer (some ⟨b, 0, none⟩)] w fun e w' => e = .returned (.int .u64 pd) ∧ Wrote (fun _ => False) w w' := by
  have hmf := makeFunc_run
  have H2 := Lib.hid (h.alloc (.cells #[.pointer (some ⟨b, 0, none⟩)] 23))
  have hc := Lib.hid (new_cell w #[.pointer (some ⟨b, 0, none⟩)] 23 0 _ rfl)
  clear h
  go_enter Try.func23, Try.ntmps23
  go_wp2_with fail
  refine (is_paid b s _ _ _ (H2.out.B.cell 0 rfl) _ (paidDo w.heap.size b s g l gr pd _ H2.out hc.out)).mono ?_
  rintro e _ ⟨rfl, rfl⟩
  go_wp2
  go_returns
  exact ⟨rfl, Wrote.alloc _ w _⟩

/-- What lies behind a mark: a budget made behind it, and all that was ahead is as it was. -/
structure BudIn (w0 w : World) (b s : Nat) (g l gr pd : Int) : Prop where
  u : Bud w b s g l gr pd
  bel : Below w0.heap.size w0 w
  le : w0.heap.size ≤ s

theorem BudIn.then {w0 w w' : World} {b s : Nat} {g l gr pd : Int} (h : BudIn w0 w b s g l gr pd) (k : Below w.heap.size w w') : BudIn w0 w' b s g l gr pd :=
  ⟨h.u.kept (Wrote.ofBelow k (fun _ => False)) (fun h => h) (fun h => h), bthen h.bel k, h.le⟩
theorem BudIn.step {w0 w w' : World} {b s : Nat} {g l gr pd g' l' gr' pd' : Int} (h : BudIn w0 w b s g l gr pd) (k : Wrote (atBud b s) w w') (hb : Bud w' b s g' l' gr' pd') : BudIn w0 w' b s g' l' gr' pd' :=
  ⟨hb, Wrote.below h.bel k (fun i hi => by have := h.le; have := h.u.ne; unfold atBud at hi; omega), h.le⟩
theorem BudIn.drew {w0 w : World} {b s : Nat} {g l gr pd : Int} (h : BudIn w0 w b s g l gr pd) : BudIn w0 w.drew b s g l gr pd :=
  ⟨h.u.kept (p := fun _ => False) ⟨rfl, rfl, rfl, Nat.le_refl _, fun _ _ _ => rfl⟩ (fun h => h) (fun h => h), h.bel.drew, h.le⟩
theorem ytick (w0 : World) (b s : Nat) (g l l' gr gr' pd : Int) (w : World) (h : Hid (BudIn w0 w b s g l gr pd)) (hl : l + tickN g l = l') (hr : addC gr (tickN g l) = gr') :
    Calls Try.prog 17 #[.pointer (some ⟨b, 0, none⟩)] w fun e w' => e = .returned (.tuple #[]) ∧ Hid (BudIn w0 w' b s g l' gr' pd) := by
  subst hl hr
  exact (utick b s g l gr pd w h.out.u).mono fun _ _ ⟨he, k, hb⟩ => ⟨he, Lib.hid (h.out.step k hb)⟩
theorem ypay (w0 : World) (b s : Nat) (n g l l' gr pd pd' : Int) (v : Bool) (w : World) (h : Hid (BudIn w0 w b s g l gr pd)) (hv : mayP n l = v) (hl : leftP n l = l') (hp : paidP n l pd = pd') :
    Calls Try.prog 19 #[.pointer (some ⟨b, 0, none⟩), .int .i64 n] w fun e w' => e = .returned (.bool v) ∧ Hid (BudIn w0 w' b s g l' gr pd') := by
  subst hv hl hp
  exact (upay b s n g l gr pd w h.out.u).mono fun _ _ ⟨he, k, hb⟩ => ⟨he, Lib.hid (h.out.step k hb)⟩
theorem BudIn.quiet {w0 w w' : World} {b s : Nat} {g l gr pd : Int} (h : BudIn w0 w b s g l gr pd) (k : Wrote (fun _ => False) w w') : BudIn w0 w' b s g l gr pd :=
  ⟨h.u.kept k (fun h => h) (fun h => h), Wrote.below h.bel k (fun _ hi => hi.elim), h.le⟩
theorem yleft (w0 : World) (b s : Nat) (g l gr pd : Int) (w : World) (h : Hid (BudIn w0 w b s g l gr pd)) :
    Calls Try.prog 21 #[.pointer (some ⟨b, 0, none⟩)] w fun e w' => e = .returned (.int .i64 l) ∧ Hid (BudIn w0 w' b s g l gr pd) :=
  (uleft b s g l gr pd w h.out.u).mono fun _ _ ⟨he, k⟩ => ⟨he, Lib.hid (h.out.quiet k)⟩
theorem ygranted (w0 : World) (b s : Nat) (g l gr pd : Int) (w : World) (h : Hid (BudIn w0 w b s g l gr pd)) :
    Calls Try.prog 22 #[.pointer (some ⟨b, 0, none⟩)] w fun e w' => e = .returned (.int .u64 gr) ∧ Hid (BudIn w0 w' b s g l gr pd) :=
  (ugranted b s g l gr pd w h.out.u).mono fun _ _ ⟨he, k⟩ => ⟨he, Lib.hid (h.out.quiet k)⟩
theorem ypaid (w0 : World) (b s : Nat) (g l gr pd : Int) (w : World) (h : Hid (BudIn w0 w b s g l gr pd)) :
    Calls Try.prog 23 #[.pointer (some ⟨b, 0, none⟩)] w fun e w' => e = .returned (.int .u64 pd) ∧ Hid (BudIn w0 w' b s g l gr pd) :=
  (upaid b s g l gr pd w h.out.u).mono fun _ _ ⟨he, k⟩ => ⟨he, Lib.hid (h.out.quiet k)⟩

set_option maxRecDepth 100000 in
set_option maxHeartbeats 400000 in
theorem works20 (w : World) : Calls Try.prog 16 #[] w fun e w' => e = .returned (.bool true) ∧ Below w.heap.size w w' := by
  go_enter Try.func16, Try.ntmps16
  go_wp2_with fail
  refine (unew 20000 _ (by decide) (by decide)).mono ?_
  rintro e w1 ⟨rfl, q1, u1⟩
  have h1 := Lib.hid (BudIn.mk u1 q1 (Nat.le_refl _))
  clear u1 q1
  go_wp2_with fail
  refine (ypay w _ _ 1 20000 0 0 0 0 0 false _ h1 (by decide) (by decide) (by decide)).mono ?_
  rintro e w2 ⟨rfl, h2⟩
  go_wp2_with fail
  refine (ytick w _ _ 20000 0 20000 0 20000 0 _ h2 (by decide) (by decide)).mono ?_
  rintro e w3 ⟨rfl, h3⟩
  go_wp2_with fail
  refine (ypay w _ _ 20001 20000 20000 20000 20000 0 0 false _ h3 (by decide) (by decide) (by decide)).mono ?_
  rintro e w4 ⟨rfl, h4⟩
  go_wp2_with fail
  refine (ypay w _ _ 5000 20000 20000 15000 20000 0 5000 true _ h4 (by decide) (by decide) (by decide)).mono ?_
  rintro e w5 ⟨rfl, h5⟩
  go_wp2_with fail
  refine (yleft w _ _ _ _ _ _ _ h5).mono ?_
  rintro e w6 ⟨rfl, h6⟩
  go_wp2_with fail
  refine (ytick w _ _ 20000 15000 35000 20000 40000 5000 _ h6 (by decide) (by decide)).mono ?_
  rintro e w7 ⟨rfl, h7⟩
  go_wp2_with fail
  refine (ytick w _ _ 20000 35000 53282 40000 58282 5000 _ h7 (by decide) (by decide)).mono ?_
  rintro e w8 ⟨rfl, h8⟩
  go_wp2_with fail
  refine (ytick w _ _ 20000 53282 53282 58282 58282 5000 _ h8 (by decide) (by decide)).mono ?_
  rintro e w9 ⟨rfl, h9⟩
  go_wp2_with fail
  refine (yleft w _ _ _ _ _ _ _ h9).mono ?_
  rintro e w10 ⟨rfl, h10⟩
  go_wp2_with fail
  refine (ygranted w _ _ _ _ _ _ _ h10).mono ?_
  rintro e w11 ⟨rfl, h11⟩
  go_wp2_with fail
  refine (ypaid w _ _ _ _ _ _ _ h11).mono ?_
  rintro e w12 ⟨rfl, h12⟩
  go_wp2_with fail
  go_returns
  exact ⟨rfl, h12.out.bel⟩

end Go.Proofs.Ytbdlkkbjkbjanaa
