/-
  BbfPacks, BbfUnpacks: the walks.
-/
import Derived.Test.YtdipbdoekmcgbaaBbf6
namespace Go.Proofs.Ytdipbdoekmcgbaa
open Go.RowKit

set_option maxRecDepth 100000 in
set_option maxHeartbeats 400000 in
theorem bbfPacks_walk (num : Int) (short pilots : Bool) (f : ByteArray) (hf : f.size ≤ maxLen) (w : World) : Calls Try.prog 8 #[modeV num short pilots, .string f] w fun r w' => r = .returned (.bool true) ∧ Below w.heap.size w w' := by
  have hc : ∃ f1 : ByteArray, (((f.size : Int) ≤ 7300 ∧ f1 = f) ∨ ((7300 : Int) < (f.size : Int) ∧ f.extract 0 7300 = f1)) ∧ f1.size ≤ 7300 := by
    by_cases h : (f.size : Int) ≤ 7300
    · exact ⟨f, .inl ⟨h, rfl⟩, by omega⟩
    · exact ⟨_, .inr ⟨by omega, rfl⟩, by rw [ByteArray.size_extract]; omega⟩
  obtain ⟨f1, hc, hf1⟩ := hc
  obtain ⟨p1, p2, hp⟩ : ∃ p1 p2, Hid (packS num short f1 = (p1, p2)) := ⟨_, _, Lib.hid rfl⟩
  have hP := fun w => packE num short pilots f1 p1 p2 hp w
  have hR := fun w => rpackE num short pilots f1 p1 p2 hp w
  unfold modeV at *
  go_enter Try.func8, Try.ntmps8
  rcases hc with ⟨hc, rfl⟩ | ⟨hc, hc2⟩
  all_goals
    go_wp2_with fail
    refine (hP _).mono ?_
    rintro e w2 ⟨rfl, q2⟩
    have B2 := (Blk.new w [.int .i64 num, .bool short, .bool pilots] 41).below q2 (by simp)
    have c0 := B2.cell 0 rfl
    have c1 := B2.cell 1 rfl
    have c2 := B2.cell 2 rfl
    have Q2 : Hid (Below w.heap.size w w2) := Lib.hid (bthen ((Below.refl _ _).alloc (Nat.le_refl _) _) q2)
    clear q2
    go_wp2_with fail
    refine (hR _).mono ?_
    rintro e w3 ⟨rfl, q3⟩
    have Q3 : Hid (Below w.heap.size w w3) := Lib.hid (bthen Q2.out q3)
    clear q3 Q2 c0 c1 c2 B2
    go_wp2_with fail
    refine (works14 _).mono ?_
    rintro e w4 ⟨rfl, q4⟩
    have Q4 : Hid (Below w.heap.size w w4) := Lib.hid (bthen Q3.out q4)
    clear q4 Q3
    go_wp2_with fail
    go_returns
    exact ⟨rfl, Q4.out⟩

set_option maxRecDepth 100000 in
set_option maxHeartbeats 400000 in
theorem bbfUnpacks_walk (num : Int) (short pilots : Bool) (f : ByteArray) (z : Int) (hz : 0 ≤ z ∧ z ≤ 65535) (hf : f.size ≤ maxLen) (w : World) : Calls Try.prog 9 #[modeV num short pilots, .string f, .int .u16 z] w fun r w' => r = .returned (.bool true) ∧ Below w.heap.size w w' := by
  have hc : ∃ f1 : ByteArray, (((f.size : Int) ≤ 7300 ∧ f1 = f) ∨ ((7300 : Int) < (f.size : Int) ∧ f.extract 0 7300 = f1)) ∧ f1.size ≤ 7300 := by
    by_cases h : (f.size : Int) ≤ 7300
    · exact ⟨f, .inl ⟨h, rfl⟩, by omega⟩
    · exact ⟨_, .inr ⟨by omega, rfl⟩, by rw [ByteArray.size_extract]; omega⟩
  obtain ⟨f1, hc, hf1⟩ := hc
  obtain ⟨n, hn⟩ : ∃ n : Nat, z % 7300 = n := ⟨(z % 7300).toNat, by omega⟩
  have hn2 : n ≤ 7300 := by omega
  obtain ⟨Z, hZ⟩ := bytes_as (List.replicate n (0 : UInt8))
  have hZs : Z.size = n := by rw [bytes_as_size hZ, List.length_replicate]
  have hmk := fun w => make_run w n (by omega)
  have hcv : ∀ c (x : World), (convert 32 9 (.slice (some ⟨x.heap.size, 0, none⟩) n c)).run Try.prog (makeW x n) = .ok (.string Z) (makeW x n) := fun c x => string_run_as (makeW_is x n) c (by simp) hZ
  obtain ⟨p1, p2, hp⟩ := unpack_has num short (f1 ++ Z)
  have hp := Lib.hid hp
  have hP := fun w => unpackE num short pilots (f1 ++ Z) p1 p2 hp w
  have hR := fun w => runpackE num short pilots (f1 ++ Z) p1 p2 hp w
  unfold modeV at *
  go_enter Try.func9, Try.ntmps9
  have hx1 : f1.extract 0 f1.size = f1 := ba_list (by rw [extract_list, ← len_bytes, List.take_length])
  have hn3 : z.tmod 7300 = n := by rw [Int.tmod_eq_emod_of_nonneg hz.1]; exact hn
  have hwz : IntKind.i64.wrap z = z := by rw [IntKind.wrap_i64]; omega
  have hx2 : ((7300 : Int) < f1.size) = False := eq_false (by omega)
  rcases hc with ⟨hc, rfl⟩ | ⟨hc, hc2⟩
  rotate_left
  have hx3 : (7300 : Int) ≤ f.size := by omega
  rotate_left
  all_goals
    go_wp2_with fail
    obtain ⟨W0, hW0⟩ : ∃ W0, w.alloc (Obj.cells #[Value.int IntKind.i64 num, Value.bool short, Value.bool pilots] 41) = W0 := ⟨_, rfl⟩
    have B0 : Blk W0 w.heap.size [.int .i64 num, .bool short, .bool pilots] 41 := by rw [← hW0]; exact Blk.new w _ _
    have Q0 : Hid (Below w.heap.size w W0) := Lib.hid (by rw [← hW0]; exact (Below.refl _ _).alloc (Nat.le_refl _) _)
    have hcv2 : ∀ c, (convert 32 9 (.slice (some ⟨W0.heap.size, 0, none⟩) n c)).run Try.prog (makeW W0.drew n) = .ok (.string Z) (makeW W0.drew n) := fun c => hcv c W0.drew
    have BM := B0.drew.below (makeW_below W0.drew n) B0.lt
    have QM : Hid (Below w.heap.size w (makeW W0.drew n)) := Lib.hid (Q0.out.drew.trans ((makeW_below W0.drew n).mono Q0.out.size))
    rw [hW0]
    clear hW0 hcv hZ
    refine wp_region_noPanic ?_
    refine wp_region_held_drew (S := (fun _ => True)) (by kernel_rfl) (trivial) (fun hHeld => ?_)
    refine wpAnyH_takeD (i := 0) (v := ?_) rfl (by kernel_rfl) (by kernel_rfl) (by kernel_rfl) (fun _ _ _ h => h) (Or.inl ⟨by rfl, ?_⟩) hHeld ?_
    rotate_left
    · rintro w _
      go_simp
      try with_reducible rfl
    try simp only [Act.put, List.setIfInBounds_toArray, List.set_cons_zero, List.set_cons_succ]
    refine wpAnyH_takeD (i := 1) (v := ?_) rfl (by kernel_rfl) (by kernel_rfl) (by kernel_rfl) (fun _ _ _ h => h) (Or.inl ⟨by rfl, ?_⟩) hHeld ?_
    rotate_left
    · rintro w _
      go_simp
      try with_reducible rfl
    try simp only [Act.put, List.setIfInBounds_toArray, List.set_cons_zero, List.set_cons_succ]
    refine wpAnyH_takeD (i := 2) (v := ?_) rfl (by kernel_rfl) (by kernel_rfl) (by kernel_rfl) (fun _ _ _ h => h) (Or.inl ⟨by rfl, ?_⟩) hHeld ?_
    rotate_left
    · rintro w _
      go_simp
      try with_reducible rfl
    try simp only [Act.put, List.setIfInBounds_toArray, List.set_cons_zero, List.set_cons_succ]
    refine wpAnyH_takeD (i := 3) (v := ?_) rfl (by kernel_rfl) (by kernel_rfl) (by kernel_rfl) (fun _ _ _ h => h) (Or.inl ⟨by rfl, ?_⟩) hHeld ?_
    rotate_left
    · rintro w _
      go_simp
      try with_reducible rfl
    try simp only [Act.put, List.setIfInBounds_toArray, List.set_cons_zero, List.set_cons_succ]
    refine wpAnyH_takeD (i := 4) (v := ?_) rfl (by kernel_rfl) (by kernel_rfl) (by kernel_rfl) (fun _ _ _ h => h) (Or.inl ⟨by rfl, ?_⟩) hHeld ?_
    rotate_left
    · rintro w _
      go_simp
      try with_reducible rfl
    try simp only [Act.put, List.setIfInBounds_toArray, List.set_cons_zero, List.set_cons_succ]
    refine wpAnyH_takeD (i := 5) (v := ?_) rfl (by kernel_rfl) (by kernel_rfl) (by kernel_rfl) (fun _ _ _ h => h) (Or.inl ⟨by rfl, ?_⟩) hHeld ?_
    rotate_left
    · rintro w _
      go_simp
      try with_reducible rfl
    try simp only [Act.put, List.setIfInBounds_toArray, List.set_cons_zero, List.set_cons_succ]
    refine wpAnyH_takeD (i := 6) (v := ?_) rfl (by kernel_rfl) (by kernel_rfl) (by kernel_rfl) (fun _ _ _ h => h) (Or.inl ⟨by rfl, ?_⟩) hHeld ?_
    rotate_left
    · rintro w _
      go_simp
      try with_reducible rfl
    try simp only [Act.put, List.setIfInBounds_toArray, List.set_cons_zero, List.set_cons_succ]
    refine wpAnyH_takeD (i := 7) (v := ?_) rfl (by kernel_rfl) (by kernel_rfl) (by kernel_rfl) (fun _ _ _ h => h) (Or.inl ⟨by rfl, ?_⟩) hHeld ?_
    rotate_left
    · rintro w _
      go_simp
      try with_reducible rfl
    try simp only [Act.put, List.setIfInBounds_toArray, List.set_cons_zero, List.set_cons_succ]
    refine wpAnyH_one (i := 8) rfl (by kernel_rfl) (fun K hK => ?_)
    go_simp
    refine hK.out _ _ trivial (fun hHeld => ?_)
    clear hK K
    try simp only [Act.put, List.setIfInBounds_toArray, List.set_cons_zero, List.set_cons_succ]
    refine wpAnyH_one (i := 9) rfl (by kernel_rfl) (fun K hK => ?_)
    go_simp
    refine hK.out _ _ trivial (fun hHeld => ?_)
    clear hK K
    try simp only [Act.put, List.setIfInBounds_toArray, List.set_cons_zero, List.set_cons_succ]
    refine wpAnyH_rest (fun x => x = makeW W0.drew n) 10 _ (fun _ _ => trivial) rfl (by simp only [List.drop_succ_cons, List.drop_zero]) (by kernel_rfl) (by kernel_rfl) ?_
    have hne : Nonempty (WIn (fun x => x = makeW W0.drew n)) := ⟨⟨_, rfl⟩⟩
    repeat (go_big_quiet_step (fail))
    refine wpQuiet_nil ?_
    rintro x rfl
    refine NoPanic.normal ?_
    have c0 := BM.cell 0 rfl
    have c1 := BM.cell 1 rfl
    have c2 := BM.cell 2 rfl
    obtain ⟨W1, hW1⟩ : ∃ W1, makeW W0.drew n = W1 := ⟨_, rfl⟩
    rw [hW1] at BM QM c0 c1 c2 ⊢
    clear hW1 hHeld hne hcv2 B0 Q0
    go_wp2_with fail
    refine (hP _).mono ?_
    rintro e w2 ⟨rfl, q2⟩
    have B2 := BM.below q2 BM.lt
    have c0 := B2.cell 0 rfl
    have c1 := B2.cell 1 rfl
    have c2 := B2.cell 2 rfl
    have Q2 : Hid (Below w.heap.size w w2) := Lib.hid (bthen QM.out q2)
    clear q2 BM QM
    go_wp2_with fail
    refine (hR _).mono ?_
    rintro e w3 ⟨rfl, q3⟩
    have Q3 : Hid (Below w.heap.size w w3) := Lib.hid (bthen Q2.out q3)
    clear q3 Q2 c0 c1 c2 B2
    go_wp2_with fail
    refine (works14 _).mono ?_
    rintro e w4 ⟨rfl, q4⟩
    have Q4 : Hid (Below w.heap.size w w4) := Lib.hid (bthen Q3.out q4)
    clear q4 Q3
    go_wp2_with fail
    go_returns
    exact ⟨rfl, Q4.out⟩

end Go.Proofs.Ytdipbdoekmcgbaa
