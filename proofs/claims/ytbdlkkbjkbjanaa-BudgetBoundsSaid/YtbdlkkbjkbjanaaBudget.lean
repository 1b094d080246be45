/-
  budget.Budget: each function by its contract.
-/
import Derived.Test.YtbdlkkbjkbjanaaCount
import Derived.Test.YtbdlkkbjkbjanaaHeld
namespace Go.Proofs.Ytbdlkkbjkbjanaa
open Go.RowKit

abbrev TBud : Nat := 64
abbrev TSum : Nat := 62
/-- A budget behind a pointer. -/
structure Bud (w : World) (b s : Nat) (g l gr pd : Int) : Prop where
  B : Blk w b [.pointer (some ⟨s, 0, none⟩), .int .i64 g, .int .i64 l] TBud
  S : Blk w s [.int .u64 gr, .int .u64 pd] TSum
  ne : s < b
  g1 : 1 ≤ g
  g2 : g ≤ 1000000
  l1 : 0 ≤ l
  l2 : l ≤ 33282 + g
  r1 : 0 ≤ gr
  r2 : gr ≤ 9223372036854775807
  p1 : 0 ≤ pd
  p2 : pd ≤ 9223372036854775807
def atBud (b s : Nat) (k : Nat) : Prop := k = b ∨ k = s
theorem Bud.kept {w w' : World} {b s : Nat} {g l gr pd : Int} {p : Nat → Prop} (h : Bud w b s g l gr pd) (k : Wrote p w w') (hb : ¬ p b) (hs : ¬ p s) : Bud w' b s g l gr pd :=
  { h with B := h.B.kept k hb, S := h.S.kept k hs }

def tickN (g l : Int) : Int := if g ≤ 33282 + g - l then g else 33282 + g - l
def mayP (n l : Int) : Bool := decide (1 ≤ n) && decide (n ≤ l)
def leftP (n l : Int) : Int := if mayP n l then l - n else l
def paidP (n l pd : Int) : Int := if mayP n l then addC pd n else pd
theorem mayP_yes {n l : Int} (h1 : 1 ≤ n) (h2 : n ≤ l) : mayP n l = true := by simp [mayP, h1, h2]
theorem mayP_no {n l : Int} (h : ¬ (1 ≤ n ∧ n ≤ l)) : mayP n l = false := by
  unfold mayP
  rw [Bool.and_eq_false_iff, decide_eq_false_iff_not, decide_eq_false_iff_not]
  omega
theorem tickN_rng {g l : Int} (g1 : 1 ≤ g) (l2 : l ≤ 33282 + g) : 0 ≤ tickN g l ∧ tickN g l ≤ g ∧ l + tickN g l ≤ 33282 + g := by
  unfold tickN
  split <;> omega

set_option maxRecDepth 100000 in
set_option maxHeartbeats 400000 in
theorem unew_no (g : Int) (w : World) (h : g < 1 ∨ 1000000 < g) : Calls Try.prog 14 #[.int .i64 g] w fun e w' => e = .returned (.pointer none) ∧ w = w' := by
  by_cases h1 : g < 1
  · go_enter Try.func14, Try.ntmps14
    go_wp2
    go_returns
    exact ⟨rfl, rfl⟩
  · have h2 : 1000000 < g := by omega
    go_enter Try.func14, Try.ntmps14
    go_wp2
    go_returns
    exact ⟨rfl, rfl⟩

theorem zeroS (w : World) : (zeroValue TSum).run Try.prog w = .ok (.agg #[.int .u64 0, .int .u64 0]) w := by kernel_rfl

set_option maxRecDepth 100000 in
set_option maxHeartbeats 400000 in
theorem unew (g : Int) (w : World) (h1 : 1 ≤ g) (h2 : g ≤ 1000000) : Calls Try.prog 14 #[.int .i64 g] w fun e w' =>
    e = .returned (.pointer (some ⟨w.heap.size + 1, 0, none⟩)) ∧ Below w.heap.size w w' ∧ Bud w' (w.heap.size + 1) w.heap.size g 0 0 0 := by
  have hz := zeroS
  go_enter Try.func14, Try.ntmps14
  go_wp2
  go_returns
  refine ⟨rfl, ((Below.refl _ _).alloc (Nat.le_refl _) _).alloc (by simp) _, ?_, (Blk.new w [.int .u64 0, .int .u64 0] TSum).alloc _, by omega, h1, h2, by omega, by omega, by omega, by omega, by omega, by omega⟩
  have e := Blk.new (w.alloc (.cells #[.int .u64 0, .int .u64 0] TSum)) [.pointer (some ⟨w.heap.size, 0, none⟩), .int .i64 g, .int .i64 0] TBud
  rw [show (w.alloc (.cells #[.int .u64 0, .int .u64 0] TSum)).heap.size = w.heap.size + 1 by simp] at e
  exact e

set_option maxRecDepth 100000 in
set_option maxHeartbeats 400000 in
/-- The part that 'Tick' hands over. -/
theorem tickDo (c b s : Nat) (g l gr pd : Int) (w : World) (h : Bud w b s g l gr pd) (hc : w.cell? ⟨c, 0, none⟩ = some (.pointer (some ⟨b, 0, none⟩))) :
    Calls Try.prog 39 #[.pointer (some ⟨c, 0, none⟩)] w fun e w' => e = .returned (.bool true) ∧ Wrote (atBud b s) w w' ∧ Bud w' b s g (l + tickN g l) (addC gr (tickN g l)) pd := by
  have c0 := h.B.cell 0 rfl
  have c1 := h.B.cell 1 rfl
  have c2 := h.B.cell 2 rfl
  have f2 := h.B.free 2
  obtain ⟨hB, hS, hne, g1, g2, l1, l2, r1, r2, p1, p2⟩ := h
  have HB := Lib.hid hB
  have HS := Lib.hid hS
  clear hB hS
  have HR := Lib.hid (tickN_rng g1 l2)
  have HA := Lib.hid (addC_rng (c := gr) (n := tickN g l) ⟨r1, r2⟩ HR.out.1)
  by_cases hm : g ≤ 33282 + g - l
  · have hN : tickN g l = g := by unfold tickN; rw [if_pos hm]
    have HN := Lib.hid hN
    have n1 : 0 ≤ g := by omega
    have n2 : g ≤ 18446744073709551615 := by omega
    have n3 : l + g ≤ 33282 + g := by omega
    have HS2 : Hid (Blk (w.setCell ⟨b, 2, none⟩ (.int .i64 (l + g))).drew s [.int .u64 gr, .int .u64 pd] TSum) := Lib.hid (HS.out.other (by omega))
    have HB2 : Hid (Blk (w.setCell ⟨b, 2, none⟩ (.int .i64 (l + g))).drew b [.pointer (some ⟨s, 0, none⟩), .int .i64 g, .int .i64 (l + g)] TBud) := Lib.hid (HB.out.set 2 (.int .i64 (l + g)))
    clear hN
    go_enter Try.func39, Try.ntmps39
    go_wp2
    go_region
    go_wp2_with fail
    refine (cadd s 0 gr g _ (HS2.out.cell 0 rfl) (HS2.out.free 0) r1 r2 n1 n2).mono ?_
    rintro e _ ⟨rfl, rfl⟩
    go_wp2_with fail
    go_returns
    rw [HN.out] at HR HA ⊢
    exact ⟨rfl, (Wrote.trans (Wrote.set _ w b 2 _ (.inl rfl)).drew (Wrote.set _ _ s 0 _ (.inr rfl)).drew), (HB2.out.other (by omega)).drew, (HS2.out.set 0 _).drew, hne, g1, g2, by omega, by omega, HA.out.1, HA.out.2, p1, p2⟩
  · have hN : tickN g l = (33282 + g - l) := by unfold tickN; rw [if_neg hm]
    have HN := Lib.hid hN
    have n1 : 0 ≤ (33282 + g - l) := by omega
    have n2 : (33282 + g - l) ≤ 18446744073709551615 := by omega
    have n3 : l + (33282 + g - l) ≤ 33282 + g := by omega
    have HS2 : Hid (Blk (w.setCell ⟨b, 2, none⟩ (.int .i64 (l + (33282 + g - l)))).drew s [.int .u64 gr, .int .u64 pd] TSum) := Lib.hid (HS.out.other (by omega))
    have HB2 : Hid (Blk (w.setCell ⟨b, 2, none⟩ (.int .i64 (l + (33282 + g - l)))).drew b [.pointer (some ⟨s, 0, none⟩), .int .i64 g, .int .i64 (l + (33282 + g - l))] TBud) := Lib.hid (HB.out.set 2 (.int .i64 (l + (33282 + g - l))))
    clear hN
    go_enter Try.func39, Try.ntmps39
    go_wp2
    go_region
    go_wp2_with fail
    refine (cadd s 0 gr (33282 + g - l) _ (HS2.out.cell 0 rfl) (HS2.out.free 0) r1 r2 n1 n2).mono ?_
    rintro e _ ⟨rfl, rfl⟩
    go_wp2_with fail
    go_returns
    rw [HN.out] at HR HA ⊢
    exact ⟨rfl, (Wrote.trans (Wrote.set _ w b 2 _ (.inl rfl)).drew (Wrote.set _ _ s 0 _ (.inr rfl)).drew), (HB2.out.other (by omega)).drew, (HS2.out.set 0 _).drew, hne, g1, g2, by omega, by omega, HA.out.1, HA.out.2, p1, p2⟩

set_option maxRecDepth 100000 in
set_option maxHeartbeats 400000 in
theorem is_tick (b s : Nat) (cs : Array Value) (v : Value) (w : World) (hc : w.cell? ⟨b, 0, none⟩ = some (.pointer (some ⟨s, 0, none⟩))) (R : World → Prop) (hd : Calls Try.prog 39 cs w fun e w' => e = .returned v ∧ R w') :
    Calls Try.prog 38 #[.pointer (some ⟨b, 0, none⟩), .func (.func 39) #[] cs] w fun e w' => e = .returned v ∧ R w' := by
  go_enter Try.func38, Try.ntmps38
  go_wp2_with fail
  refine hd.mono ?_
  rintro e w1 ⟨rfl, hR⟩
  go_wp2
  go_returns
  exact ⟨rfl, hR⟩

set_option maxRecDepth 100000 in
set_option maxHeartbeats 400000 in
theorem is_pay (b s : Nat) (cs : Array Value) (v : Value) (w : World) (hc : w.cell? ⟨b, 0, none⟩ = some (.pointer (some ⟨s, 0, none⟩))) (R : World → Prop) (hd : Calls Try.prog 40 cs w fun e w' => e = .returned v ∧ R w') :
    Calls Try.prog 38 #[.pointer (some ⟨b, 0, none⟩), .func (.func 40) #[] cs] w fun e w' => e = .returned v ∧ R w' := by
  go_enter Try.func38, Try.ntmps38
  go_wp2_with fail
  refine hd.mono ?_
  rintro e w1 ⟨rfl, hR⟩
  go_wp2
  go_returns
  exact ⟨rfl, hR⟩

set_option maxRecDepth 100000 in
set_option maxHeartbeats 400000 in
theorem is_left (b s : Nat) (cs : Array Value) (v : Value) (w : World) (hc : w.cell? ⟨b, 0, none⟩ = some (.pointer (some ⟨s, 0, none⟩))) (R : World → Prop) (hd : Calls Try.prog 42 cs w fun e w' => e = .returned v ∧ R w') :
    Calls Try.prog 41 #[.pointer (some ⟨b, 0, none⟩), .func (.func 42) #[] cs] w fun e w' => e = .returned v ∧ R w' := by
  go_enter Try.func41, Try.ntmps41
  go_wp2_with fail
  refine hd.mono ?_
  rintro e w1 ⟨rfl, hR⟩
  go_wp2
  go_returns
  exact ⟨rfl, hR⟩

set_option maxRecDepth 100000 in
set_option maxHeartbeats 400000 in
theorem is_granted (b s : Nat) (cs : Array Value) (v : Value) (w : World) (hc : w.cell? ⟨b, 0, none⟩ = some (.pointer (some ⟨s, 0, none⟩))) (R : World → Prop) (hd : Calls Try.prog 44 cs w fun e w' => e = .returned v ∧ R w') :
    Calls Try.prog 43 #[.pointer (some ⟨b, 0, none⟩), .func (.func 44) #[] cs] w fun e w' => e = .returned v ∧ R w' := by
  go_enter Try.func43, Try.ntmps43
  go_wp2_with fail
  refine hd.mono ?_
  rintro e w1 ⟨rfl, hR⟩
  go_wp2
  go_returns
  exact ⟨rfl, hR⟩

set_option maxRecDepth 100000 in
set_option maxHeartbeats 400000 in
theorem is_paid (b s : Nat) (cs : Array Value) (v : Value) (w : World) (hc : w.cell? ⟨b, 0, none⟩ = some (.pointer (some ⟨s, 0, none⟩))) (R : World → Prop) (hd : Calls Try.prog 45 cs w fun e w' => e = .returned v ∧ R w') :
    Calls Try.prog 43 #[.pointer (some ⟨b, 0, none⟩), .func (.func 45) #[] cs] w fun e w' => e = .returned v ∧ R w' := by
  go_enter Try.func43, Try.ntmps43
  go_wp2_with fail
  refine hd.mono ?_
  rintro e w1 ⟨rfl, hR⟩
  go_wp2
  go_returns
  exact ⟨rfl, hR⟩

theorem Bud.alloc {w : World} {b s : Nat} {g l gr pd : Int} (h : Bud w b s g l gr pd) (o : Obj) : Bud (w.alloc o) b s g l gr pd := h.kept (Wrote.alloc (fun _ => False) w o) (fun h => h) (fun h => h)
theorem makeFunc_run (fn : Fn) (first cap : Array Value) (w : World) : (Instr.makeFunc fn first cap).run Try.prog w = .ok (.func fn first cap) w := rfl

set_option maxRecDepth 100000 in
set_option maxHeartbeats 400000 in
theorem utick (b s : Nat) (g l gr pd : Int) (w : World) (h : Bud w b s g l gr pd) :
    Calls Try.prog 17 #[.pointer (some ⟨b, 0, none⟩)] w fun e w' => e = .returned (.tuple #[]) ∧ Wrote (atBud b s) w w' ∧ Bud w' b s g (l + tickN g l) (addC gr (tickN g l)) pd := by
  have hmf := makeFunc_run
  have H2 := Lib.hid (h.alloc (.cells #[.pointer (some ⟨b, 0, none⟩)] 23))
  have hc := Lib.hid (new_cell w #[.pointer (some ⟨b, 0, none⟩)] 23 0 _ rfl)
  clear h
  go_enter Try.func17, Try.ntmps17
  go_wp2_with fail
  refine (is_tick b s _ _ _ (H2.out.B.cell 0 rfl) _ (tickDo w.heap.size b s g l gr pd _ H2.out hc.out)).mono ?_
  rintro e w1 ⟨rfl, k, hb⟩
  go_wp2
  go_returns
  exact ⟨rfl, (Wrote.alloc _ w _).trans k, hb⟩

set_option maxRecDepth 100000 in
set_option maxHeartbeats 400000 in
theorem payDo (c d b s : Nat) (n g l gr pd : Int) (w : World) (h : Bud w b s g l gr pd) (hd : w.cell? ⟨d, 0, none⟩ = some (.int .i64 n)) (hc : w.cell? ⟨c, 0, none⟩ = some (.pointer (some ⟨b, 0, none⟩))) (hdb : d ≠ b) (hcb : c ≠ b) (hds : d ≠ s) (hcs : c ≠ s) :
    Calls Try.prog 40 #[.pointer (some ⟨d, 0, none⟩), .pointer (some ⟨c, 0, none⟩)] w fun e w' => e = .returned (.bool (mayP n l)) ∧ Wrote (atBud b s) w w' ∧ Bud w' b s g (leftP n l) gr (paidP n l pd) := by
  have c0 := h.B.cell 0 rfl
  have c2 := h.B.cell 2 rfl
  have f2 := h.B.free 2
  by_cases hm : 1 ≤ n ∧ n ≤ l
  · obtain ⟨n1, n2⟩ := hm
    have HM := Lib.hid (mayP_yes n1 n2)
    have HL : Hid (leftP n l = l - n) := Lib.hid (by unfold leftP; rw [if_pos HM.out])
    have HP : Hid (paidP n l pd = addC pd n) := Lib.hid (by unfold paidP; rw [if_pos HM.out])
    obtain ⟨hB, hS, hne, g1, g2, l1, l2, r1, r2, p1, p2⟩ := h
    have HS0 := Lib.hid hS
    have HB0 := Lib.hid hB
    have HA := Lib.hid (addC_rng (c := pd) (n := n) ⟨p1, p2⟩ (by omega))
    clear hB hS
    go_enter Try.func40, Try.ntmps40
    go_wp2
    go_quiet (fail)
    go_wp2
    go_region
    go_wp2_with fail
    obtain ⟨w2, hw2⟩ : ∃ w2 : World, w2 = (w.drewN (nq + 1)).setCell ⟨b, 2, none⟩ (.int .i64 (l - n)) := ⟨_, rfl⟩
    have HS2 : Hid (Blk w2.drew s [.int .u64 gr, .int .u64 pd] TSum) := Lib.hid (by rw [hw2]; exact Blk.other (w := w.drewN (nq + 1)) HS0.out (by omega))
    have HB2 : Hid (Blk w2.drew b [.pointer (some ⟨s, 0, none⟩), .int .i64 g, .int .i64 (l - n)] TBud) := Lib.hid (by rw [hw2]; exact Blk.set (w := w.drewN (nq + 1)) HB0.out 2 (.int .i64 (l - n)))
    have HW2 : Hid (Wrote (atBud b s) w w2) := Lib.hid (by rw [hw2]; exact Wrote.trans (b := w.drewN (nq + 1)) ⟨rfl, rfl, rfl, Nat.le_refl _, fun _ _ _ => rfl⟩ (Wrote.set _ _ b 2 _ (.inl rfl)))
    have e1 : w2.drew.cell? ⟨d, 0, none⟩ = some (.int .i64 n) := HW2.out.drew.cell hd (by unfold atBud; omega)
    have e2 : w2.drew.cell? ⟨c, 0, none⟩ = some (.pointer (some ⟨b, 0, none⟩)) := HW2.out.drew.cell hc (by unfold atBud; omega)
    rw [← hw2]
    clear hw2 hd hc c0 c2 f2
    refine wp_region_noPanic ?_
    refine wp_region_held_drew (S := (fun w' => w'.cell? ⟨d, 0, none⟩ = some (.int .i64 n) ∧ w'.cell? ⟨c, 0, none⟩ = some (.pointer (some ⟨b, 0, none⟩)) ∧ w'.cell? ⟨b, 0, none⟩ = some (.pointer (some ⟨s, 0, none⟩)))) (by kernel_rfl) (⟨e1, e2, HB2.out.cell 0 rfl⟩) (fun hHeld => ?_)
    have n0 : 0 ≤ n := by omega
    have n3 : n ≤ 18446744073709551615 := by omega
    refine wpAnyH_takeD (i := 0) (v := ?_) rfl (by kernel_rfl) (by kernel_rfl) (by kernel_rfl) (fun _ _ _ h => h) (Or.inl ⟨by rfl, ?_⟩) hHeld ?_
    rotate_left
    · rintro w ⟨hS1, hS2, hS3⟩
      go_simp
      try with_reducible rfl
    try simp only [Act.put, List.setIfInBounds_toArray, List.set_cons_zero, List.set_cons_succ]
    refine wpAnyH_takeD (i := 1) (v := ?_) rfl (by kernel_rfl) (by kernel_rfl) (by kernel_rfl) (fun _ _ _ h => h) (Or.inl ⟨by rfl, ?_⟩) hHeld ?_
    rotate_left
    · rintro w ⟨hS1, hS2, hS3⟩
      go_simp
      try with_reducible rfl
    try simp only [Act.put, List.setIfInBounds_toArray, List.set_cons_zero, List.set_cons_succ]
    refine wpAnyH_takeD (i := 2) (v := ?_) rfl (by kernel_rfl) (by kernel_rfl) (by kernel_rfl) (fun _ _ _ h => h) (Or.inl ⟨by rfl, ?_⟩) hHeld ?_
    rotate_left
    · rintro w ⟨hS1, hS2, hS3⟩
      go_simp
      try with_reducible rfl
    try simp only [Act.put, List.setIfInBounds_toArray, List.set_cons_zero, List.set_cons_succ]
    refine wpAnyH_takeD (i := 3) (v := ?_) rfl (by kernel_rfl) (by kernel_rfl) (by kernel_rfl) (fun _ _ _ h => h) (Or.inl ⟨by rfl, ?_⟩) hHeld ?_
    rotate_left
    · rintro w ⟨hS1, hS2, hS3⟩
      go_simp
      try with_reducible rfl
    try simp only [Act.put, List.setIfInBounds_toArray, List.set_cons_zero, List.set_cons_succ]
    refine wpAnyH_takeD (i := 4) (v := ?_) rfl (by kernel_rfl) (by kernel_rfl) (by kernel_rfl) (fun _ _ _ h => h) (Or.inl ⟨by rfl, ?_⟩) hHeld ?_
    rotate_left
    · rintro w ⟨hS1, hS2, hS3⟩
      go_simp
      try with_reducible rfl
    try simp only [Act.put, List.setIfInBounds_toArray, List.set_cons_zero, List.set_cons_succ]
    refine wpAnyH_takeD (i := 5) (v := ?_) rfl (by kernel_rfl) (by kernel_rfl) (by kernel_rfl) (fun _ _ _ h => h) (Or.inl ⟨by rfl, ?_⟩) hHeld ?_
    rotate_left
    · rintro w ⟨hS1, hS2, hS3⟩
      go_simp
      try with_reducible rfl
    try simp only [Act.put, List.setIfInBounds_toArray, List.set_cons_zero, List.set_cons_succ]
    refine wpAnyH_takeD (i := 6) (v := ?_) rfl (by kernel_rfl) (by kernel_rfl) (by kernel_rfl) (fun _ _ _ h => h) (Or.inl ⟨by rfl, ?_⟩) hHeld ?_
    rotate_left
    · rintro w ⟨hS1, hS2, hS3⟩
      go_simp
      try with_reducible rfl
    try simp only [Act.put, List.setIfInBounds_toArray, List.set_cons_zero, List.set_cons_succ]
    refine wpAnyH_takeD (i := 7) (v := ?_) rfl (by kernel_rfl) (by kernel_rfl) (by kernel_rfl) (fun _ _ _ h => h) (Or.inl ⟨by rfl, ?_⟩) hHeld ?_
    rotate_left
    · rintro w ⟨hS1, hS2, hS3⟩
      go_simp
      try with_reducible rfl
    try simp only [Act.put, List.setIfInBounds_toArray, List.set_cons_zero, List.set_cons_succ]
    have hw : IntKind.u64.wrap n = n := by rw [IntKind.wrap_u64]; omega
    rw [hw]
    refine wpAnyH_one (i := 8) rfl (by kernel_rfl) (fun K hK => ?_)
    go_simp
    refine (cadd s 1 pd n _ (HS2.out.cell 1 rfl) (HS2.out.free 1) p1 p2 n0 n3).mono ?_
    rintro e _ ⟨rfl, rfl⟩
    have HW3 : Hid (Wrote (· = s) w2.drew (w2.drew.setCell ⟨s, 1, none⟩ (.int .u64 (addC pd n))).drew) := Lib.hid (Wrote.set (fun x => x = s) w2.drew s 1 (.int .u64 (addC pd n)) rfl).drew
    refine hK.out _ _ (⟨HW3.out.cell hHeld.1 hds, HW3.out.cell hHeld.2.1 hcs, HW3.out.cell hHeld.2.2 (by omega)⟩) (fun hHeld => ?_)
    clear hK K
    try simp only [Act.put, List.setIfInBounds_toArray, List.set_cons_zero, List.set_cons_succ]
    have HS4 : Hid (Blk (w2.drew.setCell ⟨s, 1, none⟩ (.int .u64 (addC pd n))).drew s [.int .u64 gr, .int .u64 (addC pd n)] TSum) := Lib.hid (HS2.out.set 1 _)
    have HB4 : Hid (Blk (w2.drew.setCell ⟨s, 1, none⟩ (.int .u64 (addC pd n))).drew b [.pointer (some ⟨s, 0, none⟩), .int .i64 g, .int .i64 (l - n)] TBud) := Lib.hid (HB2.out.kept HW3.out (by omega))
    have HW4 : Hid (Wrote (atBud b s) w (w2.drew.setCell ⟨s, 1, none⟩ (.int .u64 (addC pd n))).drew) := Lib.hid (HW2.out.drew.trans (HW3.out.mono (fun k hk => .inr hk)))
    generalize (w2.drew.setCell ⟨s, 1, none⟩ (.int .u64 (addC pd n))).drew = w4 at *
    refine wpAnyH_rest (fun w' => w' = w4) 9 _ (fun w' h => by rw [h]; exact hHeld) rfl (by simp only [List.drop_succ_cons, List.drop_zero]) (by kernel_rfl) (by kernel_rfl) ?_
    refine wpQuiet_nil ?_
    rintro _ rfl
    refine NoPanic.normal ?_
    clear hHeld e1 e2
    go_wp2
    go_returns
    rw [HM.out, HL.out, HP.out]
    exact ⟨rfl, HW4.out, HB4.out, HS4.out, hne, g1, g2, by omega, by omega, r1, r2, HA.out.1, HA.out.2⟩
  · have HM := Lib.hid (mayP_no hm)
    have HL : Hid (leftP n l = l) := Lib.hid (by unfold leftP; rw [if_neg (by rw [HM.out]; decide)])
    have HP : Hid (paidP n l pd = pd) := Lib.hid (by unfold paidP; rw [if_neg (by rw [HM.out]; decide)])
    have H := Lib.hid h
    clear h
    by_cases h1 : n < 1
    all_goals
      try have h2 : l < n := by omega
      go_enter Try.func40, Try.ntmps40
      go_wp2
      go_quiet (fail)
      go_wp2
      go_returns
      rw [HM.out, HL.out, HP.out]
      exact ⟨rfl, ⟨rfl, rfl, rfl, Nat.le_refl _, fun _ _ _ => rfl⟩, H.out.kept (p := fun _ => False) ⟨rfl, rfl, rfl, Nat.le_refl _, fun _ _ _ => rfl⟩ (fun h => h) (fun h => h)⟩

end Go.Proofs.Ytbdlkkbjkbjanaa
