/-
  aerialref20.Budget: each function by its contract.
-/
import Derived.Test.YtbdlkkbjkbjanaaBudget2
namespace Go.Proofs.Ytbdlkkbjkbjanaa
open Go.RowKit

abbrev TRef : Nat := 32
abbrev RefB (w : World) (c : Nat) (g l gr pd : Int) : Prop := Blk w c [.int .i64 g, .int .i64 l, .int .u64 gr, .int .u64 pd] TRef

set_option maxRecDepth 100000 in
set_option maxHeartbeats 400000 in
theorem rnew_no (g : Int) (w : World) (h : g < 1 ∨ 1000000 < g) : Calls Try.prog 15 #[.int .i64 g] w fun e w' => e = .returned (.pointer none) ∧ w = w' := by
  by_cases h1 : g < 1
  · go_enter Try.func15, Try.ntmps15
    go_wp2
    go_returns
    exact ⟨rfl, rfl⟩
  · have h2 : 1000000 < g := by omega
    go_enter Try.func15, Try.ntmps15
    go_wp2
    go_returns
    exact ⟨rfl, rfl⟩

set_option maxRecDepth 100000 in
set_option maxHeartbeats 400000 in
theorem rnew (g : Int) (w : World) (h1 : 1 ≤ g) (h2 : g ≤ 1000000) : Calls Try.prog 15 #[.int .i64 g] w fun e w' =>
    e = .returned (.pointer (some ⟨w.heap.size, 0, none⟩)) ∧ Below w.heap.size w w' ∧ RefB w' w.heap.size g 0 0 0 := by
  go_enter Try.func15, Try.ntmps15
  go_wp2
  go_returns
  exact ⟨rfl, (Below.refl _ _).alloc (Nat.le_refl _) _, Blk.new w [.int .i64 g, .int .i64 0, .int .u64 0, .int .u64 0] TRef⟩

set_option maxRecDepth 100000 in
set_option maxHeartbeats 400000 in
theorem rpay (c : Nat) (n g l gr pd : Int) (w : World) (h : RefB w c g l gr pd) (l1 : 0 ≤ l) (l2 : l ≤ 2000000) (p1 : 0 ≤ pd) (p2 : pd ≤ 9223372036854775807) :
    Calls Try.prog 20 #[.pointer (some ⟨c, 0, none⟩), .int .i64 n] w fun e w' => e = .returned (.bool (mayP n l)) ∧ Wrote (· = c) w w' ∧ RefB w' c g (leftP n l) gr (paidP n l pd) := by
  have c1 := h.cell 1 rfl
  have f1 := h.free 1
  have f3 := h.free 3
  by_cases hm : 1 ≤ n ∧ n ≤ l
  · obtain ⟨n1, n2⟩ := hm
    have HM := Lib.hid (mayP_yes n1 n2)
    have HL : Hid (leftP n l = l - n) := Lib.hid (by unfold leftP; rw [if_pos HM.out])
    have HP : Hid (paidP n l pd = addC pd n) := Lib.hid (by unfold paidP; rw [if_pos HM.out])
    have n0 : 0 ≤ n := by omega
    have n3 : n ≤ 18446744073709551615 := by omega
    have HB2 : Hid (RefB (w.setCell ⟨c, 1, none⟩ (.int .i64 (l - n))) c g (l - n) gr pd) := Lib.hid (h.set 1 (.int .i64 (l - n)))
    have hc3 := HB2.out.cell 3 rfl
    have hf3 := HB2.out.free 3
    clear h
    go_enter Try.func20, Try.ntmps20
    go_wp2_with fail
    refine (radd pd n _ p1 p2 n0 n3).mono ?_
    rintro e _ ⟨rfl, rfl⟩
    go_wp2
    go_returns
    rw [HM.out, HL.out, HP.out]
    exact ⟨rfl, (Wrote.set (fun x => x = c) w c 1 _ rfl).trans (Wrote.set (fun x => x = c) _ c 3 _ rfl), HB2.out.set 3 (.int .u64 (addC pd n))⟩
  · have HM := Lib.hid (mayP_no hm)
    have HL : Hid (leftP n l = l) := Lib.hid (by unfold leftP; rw [if_neg (by rw [HM.out]; decide)])
    have HP : Hid (paidP n l pd = pd) := Lib.hid (by unfold paidP; rw [if_neg (by rw [HM.out]; decide)])
    have H := Lib.hid h
    clear h
    by_cases h1 : n < 1
    all_goals
      try have h2 : l < n := by omega
      go_enter Try.func20, Try.ntmps20
      go_wp2
      go_returns
      rw [HM.out, HL.out, HP.out]
      exact ⟨rfl, Wrote.refl _ _, H.out⟩

set_option maxRecDepth 100000 in
set_option maxHeartbeats 400000 in
theorem rtick (c : Nat) (g l gr pd : Int) (w : World) (h : RefB w c g l gr pd) (g1 : 1 ≤ g) (g2 : g ≤ 1000000) (l1 : 0 ≤ l) (l2 : l ≤ 33282 + g) (r1 : 0 ≤ gr) (r2 : gr ≤ 9223372036854775807) :
    Calls Try.prog 18 #[.pointer (some ⟨c, 0, none⟩)] w fun e w' => e = .returned (.tuple #[]) ∧ Wrote (· = c) w w' ∧ RefB w' c g (l + tickN g l) (addC gr (tickN g l)) pd := by
  have c0 := h.cell 0 rfl
  have c1 := h.cell 1 rfl
  have f1 := h.free 1
  have c2 := h.cell 2 rfl
  have f2 := h.free 2
  have HT := Lib.hid (tickN_rng g1 l2)
  by_cases hm : l + g ≤ 33282 + g
  · have HN : Hid (tickN g l = (l + g - l)) := Lib.hid (by unfold tickN; rw [if_pos (by omega)]; omega)
    have ht := HT.out
    rw [HN.out] at ht
    obtain ⟨n1, n2, n3⟩ := ht
    have n4 : (l + g - l) ≤ 18446744073709551615 := by omega
    have HB2 : Hid (RefB (w.setCell ⟨c, 1, none⟩ (.int .i64 (l + (l + g - l)))).drew c g (l + (l + g - l)) gr pd) := Lib.hid (h.set 1 (.int .i64 (l + (l + g - l))))
    clear h
    go_enter Try.func18, Try.ntmps18
    go_wp2
    go_region
    go_wp2_with fail
    refine (radd gr (l + g - l) _ r1 r2 n1 n4).mono ?_
    rintro e _ ⟨rfl, rfl⟩
    go_wp2
    go_returns
    rw [HN.out]
    exact ⟨rfl, (Wrote.set (fun x => x = c) w c 1 _ rfl).drew.trans (Wrote.set (fun x => x = c) _ c 2 _ rfl), HB2.out.set 2 (.int .u64 (addC gr (l + g - l)))⟩
  · have HN : Hid (tickN g l = (33282 + g - l)) := Lib.hid (by unfold tickN; rw [if_neg (by omega)])
    have ht := HT.out
    rw [HN.out] at ht
    obtain ⟨n1, n2, n3⟩ := ht
    have n4 : (33282 + g - l) ≤ 18446744073709551615 := by omega
    have HB2 : Hid (RefB (w.setCell ⟨c, 1, none⟩ (.int .i64 (l + (33282 + g - l)))).drew c g (l + (33282 + g - l)) gr pd) := Lib.hid (h.set 1 (.int .i64 (l + (33282 + g - l))))
    clear h
    go_enter Try.func18, Try.ntmps18
    go_wp2
    go_region
    go_wp2_with fail
    refine (radd gr (33282 + g - l) _ r1 r2 n1 n4).mono ?_
    rintro e _ ⟨rfl, rfl⟩
    go_wp2
    go_returns
    rw [HN.out]
    exact ⟨rfl, (Wrote.set (fun x => x = c) w c 1 _ rfl).drew.trans (Wrote.set (fun x => x = c) _ c 2 _ rfl), HB2.out.set 2 (.int .u64 (addC gr (33282 + g - l)))⟩

end Go.Proofs.Ytbdlkkbjkbjanaa
