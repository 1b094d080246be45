/-
  aeriallaw14.mode, by contract.
-/
import Derived.Test.YtdipbdoekmcgbaaBbf6
namespace Go.Proofs.Ytdipbdoekmcgbaa
open Go.RowKit

set_option maxRecDepth 100000 in
set_option maxHeartbeats 400000 in
theorem mode_has (n : Int) (h0 : 0 ≤ n) (h1 : n ≤ 255) : ∃ num short pilots, ∀ w : World, Calls Try.prog 25 #[.int .u8 n] w fun e w' => e = .returned (.tuple #[modeV num short pilots, .bool (decide (0 < bitsN num short))]) ∧ Below w.heap.size w w' := by
  obtain ⟨a, ha⟩ : ∃ a, n.tmod 28 = a := ⟨_, rfl⟩
  obtain ⟨b, hb⟩ : ∃ b, n.tdiv 28 = b := ⟨_, rfl⟩
  obtain ⟨c, hc⟩ : ∃ c, b.tmod 2 = c := ⟨_, rfl⟩
  obtain ⟨d, hd⟩ : ∃ d, n.tdiv 56 = d := ⟨_, rfl⟩
  obtain ⟨e, he⟩ : ∃ e, d.tmod 2 = e := ⟨_, rfl⟩
  have ha0 : 0 ≤ a ∧ a < 28 := by rw [Int.tmod_eq_emod_of_nonneg h0] at ha; omega
  have hb0 : 0 ≤ b ∧ b < 28 := by rw [Int.tdiv_eq_ediv_of_nonneg h0] at hb; omega
  have hd0 : 0 ≤ d ∧ d < 28 := by rw [Int.tdiv_eq_ediv_of_nonneg h0] at hd; omega
  refine ⟨1 + a, (c == 1), (e == 1), fun w => ?_⟩
  have hI := fun w => mod_is (1 + a) ((c == 1)) ((e == 1)) w
  obtain ⟨B, hB⟩ : ∃ B, decide (0 < bitsN (1 + a) ((c == 1))) = B := ⟨_, rfl⟩
  rw [hB] at hI ⊢
  clear hB
  have HI := Lib.hid hI
  clear hI
  unfold modeV at *
  go_enter Try.func25, Try.ntmps25
  go_wp2_with fail
  obtain ⟨w1, hw1⟩ : ∃ w1, w.alloc (Obj.cells #[Value.int IntKind.i64 0, Value.bool false, Value.bool false] 41) = w1 := ⟨_, rfl⟩
  have hs1 : w1.heap.size = w.heap.size + 1 := by rw [← hw1]; exact World.size_alloc _ _
  have A1 : Blk w1 w.heap.size [.int .i64 0, .bool false, .bool false] 41 := by rw [← hw1]; exact Blk.new _ _ _
  have Q1 : Below w.heap.size w w1 := by rw [← hw1]; exact (Below.refl _ _).alloc (Nat.le_refl _) _
  rw [hw1]
  clear hw1
  have A2 := (A1.alloc (.cells #[.int .i64 (1 + a), .bool (c == 1), .bool (e == 1)] 41)).drew
  have M2 := (Blk.new w1 [.int .i64 (1 + a), .bool (c == 1), .bool (e == 1)] 41).drew
  have Q2 := (Q1.alloc (by omega) (.cells #[.int .i64 (1 + a), .bool (c == 1), .bool (e == 1)] 41)).drew
  rw [hs1] at M2
  refine wp_region_noPanic ?_
  refine wp_region_held_drew (S := (fun x => x.cell? ⟨w.heap.size + 1, 0, none⟩ = some (.int .i64 (1 + a)) ∧ x.cell? ⟨w.heap.size + 1, 1, none⟩ = some (.bool (c == 1)) ∧ x.cell? ⟨w.heap.size + 1, 2, none⟩ = some (.bool (e == 1)))) (by kernel_rfl) (⟨M2.cell 0 rfl, M2.cell 1 rfl, M2.cell 2 rfl⟩) (fun hHeld => ?_)
  refine wpAnyH_takeD (i := 0) (v := ?_) rfl (by kernel_rfl) (by kernel_rfl) (by kernel_rfl) (fun _ _ _ h => h) (Or.inl ⟨by rfl, ?_⟩) hHeld ?_
  rotate_left
  · rintro w ⟨s0, s1, s2⟩
    go_simp
    try with_reducible rfl
  try simp only [Act.put, List.setIfInBounds_toArray, List.set_cons_zero, List.set_cons_succ]
  refine wpAnyH_takeD (i := 1) (v := ?_) rfl (by kernel_rfl) (by kernel_rfl) (by kernel_rfl) (fun _ _ _ h => h) (Or.inl ⟨by rfl, ?_⟩) hHeld ?_
  rotate_left
  · rintro w ⟨s0, s1, s2⟩
    go_simp
    try with_reducible rfl
  try simp only [Act.put, List.setIfInBounds_toArray, List.set_cons_zero, List.set_cons_succ]
  refine wpAnyH_one (i := 2) rfl (by kernel_rfl) (fun K hK => ?_)
  go_simp
  refine (HI.out _).mono ?_
  rintro e w3 ⟨rfl, q3⟩
  have M3 := M2.below q3 M2.lt
  have A3 := A2.below q3 A2.lt
  refine hK.out _ _ (⟨M3.cell 0 rfl, M3.cell 1 rfl, M3.cell 2 rfl⟩) (fun hHeld => ?_)
  clear hK K
  try simp only [Act.put, List.setIfInBounds_toArray, List.set_cons_zero, List.set_cons_succ]
  have Q3 := bthen Q2 q3
  have c0 := A3.cell 0 rfl
  have c1 := A3.cell 1 rfl
  have c2 := A3.cell 2 rfl
  have f0 := A3.free 0
  have f1 := A3.free 1
  have f2 := A3.free 2
  have A4 : Blk (((w3.setCell ⟨w.heap.size, 0, none⟩ (.int .i64 (1 + a))).setCell ⟨w.heap.size, 1, none⟩ (.bool (c == 1))).setCell ⟨w.heap.size, 2, none⟩ (.bool (e == 1))) w.heap.size [.int .i64 (1 + a), .bool (c == 1), .bool (e == 1)] 41 := ((A3.set 0 _).set 1 _).set 2 _
  have M4 : Blk (((w3.setCell ⟨w.heap.size, 0, none⟩ (.int .i64 (1 + a))).setCell ⟨w.heap.size, 1, none⟩ (.bool (c == 1))).setCell ⟨w.heap.size, 2, none⟩ (.bool (e == 1))) (w.heap.size + 1) [.int .i64 (1 + a), .bool (c == 1), .bool (e == 1)] 41 := ((M3.other (by omega)).other (by omega)).other (by omega)
  have Q4 : Below w.heap.size w (((w3.setCell ⟨w.heap.size, 0, none⟩ (.int .i64 (1 + a))).setCell ⟨w.heap.size, 1, none⟩ (.bool (c == 1))).setCell ⟨w.heap.size, 2, none⟩ (.bool (e == 1))) := Wrote.below (p := fun k => k = w.heap.size) Q3 (((Wrote.set (fun k => k = w.heap.size) _ _ _ _ rfl).trans (Wrote.set (fun k => k = w.heap.size) _ _ _ _ rfl)).trans (Wrote.set (fun k => k = w.heap.size) _ _ _ _ rfl)) (fun i hi => by omega)
  refine wpAnyH_one (i := 3) rfl (by kernel_rfl) (fun K hK => ?_)
  go_simp
  refine hK.out _ _ ⟨M4.cell 0 rfl, M4.cell 1 rfl, M4.cell 2 rfl⟩ (fun hHeld => ?_)
  clear hK K
  try simp only [Act.put, List.setIfInBounds_toArray, List.set_cons_zero, List.set_cons_succ]
  refine wpAnyH_takeD (i := 4) (v := ?_) rfl (by kernel_rfl) (by kernel_rfl) (by kernel_rfl) (fun _ _ _ h => h) (Or.inl ⟨by rfl, ?_⟩) hHeld ?_
  rotate_left
  · rintro w hSw
    go_simp
    try with_reducible rfl
  try simp only [Act.put, List.setIfInBounds_toArray, List.set_cons_zero, List.set_cons_succ]
  refine wpAnyH_done (by kernel_rfl) ?_ _
  refine NoPanic.normal ?_
  obtain ⟨w5, hw5⟩ : ∃ w5, ((w3.setCell ⟨w.heap.size, 0, none⟩ (.int .i64 (1 + a))).setCell ⟨w.heap.size, 1, none⟩ (.bool (c == 1))).setCell ⟨w.heap.size, 2, none⟩ (.bool (e == 1)) = w5 := ⟨_, rfl⟩
  rw [hw5] at A4 Q4 ⊢
  have d0 := A4.cell 0 rfl
  have d1 := A4.cell 1 rfl
  have d2 := A4.cell 2 rfl
  have HQ := Lib.hid Q4
  clear hw5 A4 M4 Q4 Q3 A3 M3 q3 c0 c1 c2 f0 f1 f2 hHeld A2 M2 Q2 A1 Q1
  go_wp2_with fail
  refine bodyPost_ret (by simp [results, Try.results25, go_sem, d0, d1, d2]; try rfl) rfl ?_
  exact ⟨rfl, HQ.out⟩

end Go.Proofs.Ytdipbdoekmcgbaa
