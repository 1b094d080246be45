/-
  aerialref01.Writer: by contract. (Printed by mkref.py.)
-/
import Derived.Test.YtljdkaajlmcpkaaBits6
namespace Go.Proofs.Ytljdkaajlmcpkaa
open Go.RowKit

abbrev TRw : Nat := 44
structure Rw (w : World) (r : Nat) (v : Value) (l : List Bool) : Prop where
  S : Blk w r [v] TRw
  b : Row 4 w 0 v (boolV l)
  ne : v.ownBlock ≠ some r
def RwTo (w : World) (r : Nat) (v : Value) (l' : List Bool) (w' : World) : Prop :=
  ∃ v', Rw w' r v' l' ∧ Wrote (fun k => k = r ∨ v.ownBlock = some k) w w' ∧ (∀ k, v'.ownBlock = some k → v.ownBlock = some k ∨ w.heap.size ≤ k)
theorem Rw.below {w w' : World} {r : Nat} {v : Value} {l : List Bool} (h : Rw w r v l) (k : Below w.heap.size w w') : Rw w' r v l :=
  ⟨h.S.below k h.S.lt, h.b.wrote (Wrote.ofBelow k (fun _ => False)) (fun _ _ e => e), h.ne⟩
theorem RwTo.of {w w' : World} {r : Nat} {v : Value} {l : List Bool} (h : Rw w r v l) (k : Below w.heap.size w w') : RwTo w r v l w' :=
  ⟨v, h.below k, Wrote.ofBelow k _, fun _ e => .inl e⟩
theorem RwTo.join {w w' w'' : World} {r : Nat} {v v1 : Value} {l' : List Bool} (h2 : Wrote (fun k => k = r ∨ v.ownBlock = some k) w w') (h3 : ∀ k, v1.ownBlock = some k → v.ownBlock = some k ∨ w.heap.size ≤ k) (k : RwTo w' r v1 l' w'') : RwTo w r v l' w'' := by
  obtain ⟨v2, k1, k2, k3⟩ := k
  refine ⟨v2, k1, ⟨k2.os.trans h2.os, k2.tape.trans h2.tape, k2.output.trans h2.output, Nat.le_trans h2.size k2.size, fun i hi hp => ?_⟩, fun i hi => ?_⟩
  · exact (k2.block i (Nat.lt_of_lt_of_le hi h2.size) (fun e => by
      rcases e with e | e
      · exact hp (.inl e)
      · rcases h3 i e with h | h
        · exact hp (.inr h)
        · omega)).trans (h2.block i hi hp)
  · rcases k3 i hi with h | h
    · exact h3 i h
    · exact .inr (Nat.le_trans h2.size h)
/-- 'append(v, v2...)' of truth values. -/
theorem push_bools {w : World} {B B2 : Nat} {v v2 : Value} {l m : List Bool} (h : Row 4 w B v (boolV l)) (h2 : Row 4 w B2 v2 (boolV m)) (hm : 0 < m.length) (hB : B ≤ w.heap.size) (hl : l.length + m.length ≤ 1000000) :
    ∃ g cap w', (Builtin.append_ #[42, 42] 42 #[v, v2]).run Try.prog w = .ok (.slice (some ⟨g, 0, none⟩) (l.length + m.length) cap) w' ∧ Row 4 w' B (.slice (some ⟨g, 0, none⟩) (l.length + m.length) cap) (boolV (l ++ m)) ∧ w.grownBy w' v.ownBlock ∧ (v.ownBlock = some g ∨ w.heap.size ≤ g) := by
  obtain ⟨g2, c2, rfl, _, _, _, _⟩ := h2.at (by rw [boolV_length]; exact hm)
  rw [boolV_length]
  obtain ⟨g, cap, w', hr, r1, r2, r3, r4⟩ := Row.push (P := Try.prog) 42 (.bool false) 1 Try.underlying42 bool_info rfl (by decide) h hB ⟨g2, 0, none⟩ m.length c2 (boolV m) (boolV_length m) hm
    (fun j u hu => by
      have hj := (List.getElem?_eq_some_iff.1 hu).1
      rw [Addr.add_lit, Nat.zero_add, h2.cell j hj]
      exact hu) (boolV_one m) (by rw [boolV_length]; exact hl) 42
  rw [boolV_length] at hr r1
  rw [boolV_append] at r1
  exact ⟨g, cap, w', hr, r1, r2, r3.imp id (fun h => by omega)⟩

set_option maxRecDepth 100000 in
set_option maxHeartbeats 400000 in
theorem rput_arg (r : Nat) (n : Int) (b : Int) (hb : b < 1 ∨ 64 < b) (w : World) : Calls Try.prog 21 #[.pointer (some ⟨r, 0, none⟩), .int .u64 n, .int .i64 b] w fun e w' => e = .returned (.int .i64 2) ∧ Below w.heap.size w w' := by
  rcases hb with hb | hb
  · go_enter Try.func21, Try.ntmps21
    go_wp2_with fail
    go_returns
    exact ⟨rfl, Below.refl _ _⟩
  · have hb2 : ¬ b < 1 := by omega
    go_enter Try.func21, Try.ntmps21
    go_wp2_with fail
    go_returns
    exact ⟨rfl, Below.refl _ _⟩
set_option maxRecDepth 100000 in
set_option maxHeartbeats 400000 in
theorem rput_over (r n b : Nat) (h1 : 1 ≤ b) (h2 : b < 64) (hn : 2 ^ b ≤ n) (w : World) : Calls Try.prog 21 #[.pointer (some ⟨r, 0, none⟩), .int .u64 n, .int .i64 b] w fun e w' => e = .returned (.int .i64 14) ∧ Below w.heap.size w w' := by
  have hb1 : (1 : Int) ≤ b := by omega
  have hb2 : (b : Int) < 64 := by omega
  have hb3 : (b : Int) ≤ 64 := by omega
  have hd : 0 < n / 2 ^ b := Nat.div_pos hn (Nat.two_pow_pos b)
  obtain ⟨z, hz⟩ : ∃ z : Nat, n / 2 ^ b = z + 1 := ⟨n / 2 ^ b - 1, by omega⟩
  have hz2 : (n : Int) / 2 ^ b = (z : Int) + 1 := by
    have e : ((n / 2 ^ b : Nat) : Int) = (z : Int) + 1 := by rw [hz]; rfl
    rw [← e]
    simp
  have hz3 : (0 : Int) < (z : Int) + 1 := by omega
  clear hd hz hn
  go_enter Try.func21, Try.ntmps21
  go_wp2_with fail
  go_returns
  exact ⟨rfl, Below.refl _ _⟩
set_option maxRecDepth 100000 in
set_option maxHeartbeats 400000 in
theorem rput_lt (r : Nat) (v : Value) (l : List Bool) (n b : Nat) (h1 : 1 ≤ b) (h2 : b < 64) (hn : n < 2 ^ b) (w : World) (h : Rw w r v l) (hlen : l.length ≤ 100000) :
    Calls Try.prog 21 #[.pointer (some ⟨r, 0, none⟩), .int .u64 n, .int .i64 b] w fun e w' => e = .returned (.int .i64 0) ∧ RwTo w r v (l ++ bitsL n b) w' := by
  have hz := bits_lt n b hn
  have hb1 : (1 : Int) ≤ b := by omega
  have hb2 : (b : Int) < 64 := by omega
  have hb3 : (b : Int) ≤ 64 := by omega
  have hb4 : b ≤ 64 := by omega
  have hnl : n < 18446744073709551616 := Nat.lt_of_lt_of_le hn (Nat.le_trans (Nat.pow_le_pow_right (by omega) hb4) (by decide))
  have c0 := h.S.cell 0 rfl
  have RwD : Hid (Rw w.drew r v l) := Lib.hid ⟨h.S.drew, h.b.drew, h.ne⟩
  have HC := Lib.hid (fun w => bitsOf_is n b hb4 hnl w)
  clear hn h
  go_enter Try.func21, Try.ntmps21
  go_upto_region 5 with fail
  refine wp_region_noPanic ?_
  refine wp_region_held_drew (S := (fun _ => True)) (by kernel_rfl) (trivial) (fun hHeld => ?_)
  refine wpAnyH_takeD (i := 0) (v := ?_) rfl (by kernel_rfl) (by kernel_rfl) (by kernel_rfl) (fun _ _ _ h => h) (Or.inl ⟨by rfl, ?_⟩) hHeld ?_
  rotate_left
  · rintro w _
    go_simp
    try with_reducible rfl
  try simp only [Act.put, List.setIfInBounds_toArray, List.set_cons_zero, List.set_cons_succ]
  refine wpAnyH_takeD (i := 1) (v := ?_) rfl (by kernel_rfl) (by kernel_rfl) (by kernel_rfl) (fun _ _ _ h => h) (Or.inl ⟨by rfl, ?_⟩) hHeld ?_
  rotate_left
  · rintro w _
    go_simp
    try with_reducible rfl
  try simp only [Act.put, List.setIfInBounds_toArray, List.set_cons_zero, List.set_cons_succ]
  refine wpAnyH_takeD (i := 2) (v := ?_) rfl (by kernel_rfl) (by kernel_rfl) (by kernel_rfl) (fun _ _ _ h => h) (Or.inl ⟨by rfl, ?_⟩) hHeld ?_
  rotate_left
  · rintro w _
    go_simp
    try with_reducible rfl
  try simp only [Act.put, List.setIfInBounds_toArray, List.set_cons_zero, List.set_cons_succ]
  refine wpAnyH_takeD (i := 3) (v := ?_) rfl (by kernel_rfl) (by kernel_rfl) (by kernel_rfl) (fun _ _ _ h => h) (Or.inl ⟨by rfl, ?_⟩) hHeld ?_
  rotate_left
  · rintro w _
    go_simp
    try with_reducible rfl
  try simp only [Act.put, List.setIfInBounds_toArray, List.set_cons_zero, List.set_cons_succ]
  refine wpAnyH_takeD (i := 5) (v := ?_) rfl (by kernel_rfl) (by kernel_rfl) (by kernel_rfl) (fun _ _ _ h => h) (Or.inl ⟨by rfl, ?_⟩) hHeld ?_
  rotate_left
  · rintro w _
    go_simp
    try with_reducible rfl
  try simp only [Act.put, List.setIfInBounds_toArray, List.set_cons_zero, List.set_cons_succ]
  refine wpAnyH_takeD (i := 6) (v := ?_) rfl (by kernel_rfl) (by kernel_rfl) (by kernel_rfl) (fun _ _ _ h => h) (Or.inl ⟨by rfl, ?_⟩) hHeld ?_
  rotate_left
  · rintro w _
    go_simp
    try with_reducible rfl
  try simp only [Act.put, List.setIfInBounds_toArray, List.set_cons_zero, List.set_cons_succ]
  refine wpAnyH_two (i := 4) (j := 7) rfl rfl (by kernel_rfl) (fun K hK => ?_) (fun K hK => ?_)
  · go_simp
    refine hK.out _ _ trivial (fun hHeld => ?_)
    clear hK K
    try simp only [Act.put, List.setIfInBounds_toArray, List.set_cons_zero, List.set_cons_succ]
    refine wpAnyH_one (i := 7) rfl (by kernel_rfl) (fun K hK => ?_)
    go_simp
    refine (HC.out _).mono ?_
    rintro e w3 ⟨v2, rfl, r2, q2⟩
    have S3 := RwD.out.S.below q2 RwD.out.S.lt
    have c03 := S3.cell 0 rfl
    have B3 := RwD.out.b.wrote (Wrote.ofBelow q2 (fun _ => False)) (fun _ _ e => e)
    obtain ⟨g, cap, w4, hrun, p1, p2, p3⟩ := push_bools B3 r2 (by rw [bitsL_length]; omega) (Nat.zero_le _) (by rw [bitsL_length]; omega)
    have hgr : g ≠ r := fun e => by
      rcases p3 with h | h
      · exact RwD.out.ne (by rw [h, e])
      · have := RwD.out.S.lt
        have := q2.size
        omega
    have S4 := S3.kept (Wrote.ofGrown p2 (fun k => v.ownBlock = some k) (fun k e => e)) RwD.out.ne
    have c0x := S4.cell 0 rfl
    have f0x := S4.free 0
    have HF : Hid (RwTo w r v (l ++ bitsL n b) (w4.setCell ⟨r, 0, none⟩ (.slice (some ⟨g, 0, none⟩) (l.length + (bitsL n b).length) cap))) := Lib.hid ⟨_, ⟨S4.set 0 _, p1.kept (setCell_grown w4 r 0 _) (.inr (by simp [Value.ownBlock]; exact hgr)), by simp [Value.ownBlock]; exact hgr⟩,
      ((Wrote.ofBelow ((Below.refl _ w).drew.trans (q2.mono (Nat.le_refl _))) (fun k => k = r ∨ v.ownBlock = some k)).trans (Wrote.ofGrown p2 _ (fun k e => .inr e))).trans (Wrote.set _ w4 r 0 _ (.inl rfl)),
      fun k hk => by
        simp [Value.ownBlock] at hk
        subst hk
        exact p3.imp id (fun h => Nat.le_trans (q2.size) h)⟩
    clear S3 B3 p1 p2 p3 S4 r2 q2
    refine hK.out _ _ trivial (fun hHeld => ?_)
    clear hK K
    try simp only [Act.put, List.setIfInBounds_toArray, List.set_cons_zero, List.set_cons_succ]
    refine wpAnyH_one (i := 8) rfl (by kernel_rfl) (fun K hK => ?_)
    refine step_append_known rfl (.tmp 25) (.tmp 28) 42 rfl v v2 _ w4 rfl rfl hrun ?_
    refine hK.out _ _ trivial (fun hHeld => ?_)
    clear hK K
    try simp only [Act.put, List.setIfInBounds_toArray, List.set_cons_zero, List.set_cons_succ]
    refine wpAnyH_takeD (i := 9) (v := ?_) rfl (by kernel_rfl) (by kernel_rfl) (by kernel_rfl) (fun _ _ _ h => h) (Or.inl ⟨by rfl, ?_⟩) hHeld ?_
    rotate_left
    · rintro w _
      go_simp
      try with_reducible rfl
    try simp only [Act.put, List.setIfInBounds_toArray, List.set_cons_zero, List.set_cons_succ]
    refine wpAnyH_takeD (i := 10) (v := ?_) rfl (by kernel_rfl) (by kernel_rfl) (by kernel_rfl) (fun _ _ _ h => h) (Or.inl ⟨by rfl, ?_⟩) hHeld ?_
    rotate_left
    · rintro w _
      go_simp
      try with_reducible rfl
    try simp only [Act.put, List.setIfInBounds_toArray, List.set_cons_zero, List.set_cons_succ]
    refine wpAnyH_one (i := 11) rfl (by kernel_rfl) (fun K hK => ?_)
    go_simp
    refine hK.out _ _ trivial (fun hHeld => ?_)
    clear hK K
    try simp only [Act.put, List.setIfInBounds_toArray, List.set_cons_zero, List.set_cons_succ]
    refine wpAnyH_done (by kernel_rfl) ?_ _
    refine NoPanic.normal ?_
    clear hHeld hrun c0x f0x
    go_wp2_with fail
    go_returns
    exact ⟨rfl, HF.out⟩
  · go_simp
    refine (HC.out _).mono ?_
    rintro e w3 ⟨v2, rfl, r2, q2⟩
    have S3 := RwD.out.S.below q2 RwD.out.S.lt
    have c03 := S3.cell 0 rfl
    have B3 := RwD.out.b.wrote (Wrote.ofBelow q2 (fun _ => False)) (fun _ _ e => e)
    obtain ⟨g, cap, w4, hrun, p1, p2, p3⟩ := push_bools B3 r2 (by rw [bitsL_length]; omega) (Nat.zero_le _) (by rw [bitsL_length]; omega)
    have hgr : g ≠ r := fun e => by
      rcases p3 with h | h
      · exact RwD.out.ne (by rw [h, e])
      · have := RwD.out.S.lt
        have := q2.size
        omega
    have S4 := S3.kept (Wrote.ofGrown p2 (fun k => v.ownBlock = some k) (fun k e => e)) RwD.out.ne
    have c0x := S4.cell 0 rfl
    have f0x := S4.free 0
    have HF : Hid (RwTo w r v (l ++ bitsL n b) (w4.setCell ⟨r, 0, none⟩ (.slice (some ⟨g, 0, none⟩) (l.length + (bitsL n b).length) cap))) := Lib.hid ⟨_, ⟨S4.set 0 _, p1.kept (setCell_grown w4 r 0 _) (.inr (by simp [Value.ownBlock]; exact hgr)), by simp [Value.ownBlock]; exact hgr⟩,
      ((Wrote.ofBelow ((Below.refl _ w).drew.trans (q2.mono (Nat.le_refl _))) (fun k => k = r ∨ v.ownBlock = some k)).trans (Wrote.ofGrown p2 _ (fun k e => .inr e))).trans (Wrote.set _ w4 r 0 _ (.inl rfl)),
      fun k hk => by
        simp [Value.ownBlock] at hk
        subst hk
        exact p3.imp id (fun h => Nat.le_trans (q2.size) h)⟩
    clear S3 B3 p1 p2 p3 S4 r2 q2
    refine hK.out _ _ trivial (fun hHeld => ?_)
    clear hK K
    try simp only [Act.put, List.setIfInBounds_toArray, List.set_cons_zero, List.set_cons_succ]
    refine wpAnyH_one (i := 4) rfl (by kernel_rfl) (fun K hK => ?_)
    go_simp
    refine hK.out _ _ trivial (fun hHeld => ?_)
    clear hK K
    try simp only [Act.put, List.setIfInBounds_toArray, List.set_cons_zero, List.set_cons_succ]
    refine wpAnyH_one (i := 8) rfl (by kernel_rfl) (fun K hK => ?_)
    refine step_append_known rfl (.tmp 25) (.tmp 28) 42 rfl v v2 _ w4 rfl rfl hrun ?_
    refine hK.out _ _ trivial (fun hHeld => ?_)
    clear hK K
    try simp only [Act.put, List.setIfInBounds_toArray, List.set_cons_zero, List.set_cons_succ]
    refine wpAnyH_takeD (i := 9) (v := ?_) rfl (by kernel_rfl) (by kernel_rfl) (by kernel_rfl) (fun _ _ _ h => h) (Or.inl ⟨by rfl, ?_⟩) hHeld ?_
    rotate_left
    · rintro w _
      go_simp
      try with_reducible rfl
    try simp only [Act.put, List.setIfInBounds_toArray, List.set_cons_zero, List.set_cons_succ]
    refine wpAnyH_takeD (i := 10) (v := ?_) rfl (by kernel_rfl) (by kernel_rfl) (by kernel_rfl) (fun _ _ _ h => h) (Or.inl ⟨by rfl, ?_⟩) hHeld ?_
    rotate_left
    · rintro w _
      go_simp
      try with_reducible rfl
    try simp only [Act.put, List.setIfInBounds_toArray, List.set_cons_zero, List.set_cons_succ]
    refine wpAnyH_one (i := 11) rfl (by kernel_rfl) (fun K hK => ?_)
    go_simp
    refine hK.out _ _ trivial (fun hHeld => ?_)
    clear hK K
    try simp only [Act.put, List.setIfInBounds_toArray, List.set_cons_zero, List.set_cons_succ]
    refine wpAnyH_done (by kernel_rfl) ?_ _
    refine NoPanic.normal ?_
    clear hHeld hrun c0x f0x
    go_wp2_with fail
    go_returns
    exact ⟨rfl, HF.out⟩
set_option maxRecDepth 100000 in
set_option maxHeartbeats 400000 in
theorem rput_64 (r : Nat) (v : Value) (l : List Bool) (n b : Nat) (h2 : b = 64) (hn : n < 2 ^ b) (w : World) (h : Rw w r v l) (hlen : l.length ≤ 100000) :
    Calls Try.prog 21 #[.pointer (some ⟨r, 0, none⟩), .int .u64 n, .int .i64 b] w fun e w' => e = .returned (.int .i64 0) ∧ RwTo w r v (l ++ bitsL n b) w' := by
  have hz := bits_lt n b hn
  have hb1 : (1 : Int) ≤ b := by omega
  have hb2 : (64 : Int) ≤ b := by omega
  have hb3 : (b : Int) ≤ 64 := by omega
  have hb4 : b ≤ 64 := by omega
  have hnl : n < 18446744073709551616 := Nat.lt_of_lt_of_le hn (Nat.le_trans (Nat.pow_le_pow_right (by omega) hb4) (by decide))
  have c0 := h.S.cell 0 rfl
  have RwD : Hid (Rw w.drew r v l) := Lib.hid ⟨h.S.drew, h.b.drew, h.ne⟩
  have HC := Lib.hid (fun w => bitsOf_is n b hb4 hnl w)
  clear hn h h2
  go_enter Try.func21, Try.ntmps21
  go_upto_region 5 with fail
  refine wp_region_noPanic ?_
  refine wp_region_held_drew (S := (fun _ => True)) (by kernel_rfl) (trivial) (fun hHeld => ?_)
  refine wpAnyH_takeD (i := 0) (v := ?_) rfl (by kernel_rfl) (by kernel_rfl) (by kernel_rfl) (fun _ _ _ h => h) (Or.inl ⟨by rfl, ?_⟩) hHeld ?_
  rotate_left
  · rintro w _
    go_simp
    try with_reducible rfl
  try simp only [Act.put, List.setIfInBounds_toArray, List.set_cons_zero, List.set_cons_succ]
  refine wpAnyH_takeD (i := 1) (v := ?_) rfl (by kernel_rfl) (by kernel_rfl) (by kernel_rfl) (fun _ _ _ h => h) (Or.inl ⟨by rfl, ?_⟩) hHeld ?_
  rotate_left
  · rintro w _
    go_simp
    try with_reducible rfl
  try simp only [Act.put, List.setIfInBounds_toArray, List.set_cons_zero, List.set_cons_succ]
  refine wpAnyH_takeD (i := 2) (v := ?_) rfl (by kernel_rfl) (by kernel_rfl) (by kernel_rfl) (fun _ _ _ h => h) (Or.inl ⟨by rfl, ?_⟩) hHeld ?_
  rotate_left
  · rintro w _
    go_simp
    try with_reducible rfl
  try simp only [Act.put, List.setIfInBounds_toArray, List.set_cons_zero, List.set_cons_succ]
  refine wpAnyH_takeD (i := 3) (v := ?_) rfl (by kernel_rfl) (by kernel_rfl) (by kernel_rfl) (fun _ _ _ h => h) (Or.inl ⟨by rfl, ?_⟩) hHeld ?_
  rotate_left
  · rintro w _
    go_simp
    try with_reducible rfl
  try simp only [Act.put, List.setIfInBounds_toArray, List.set_cons_zero, List.set_cons_succ]
  refine wpAnyH_takeD (i := 5) (v := ?_) rfl (by kernel_rfl) (by kernel_rfl) (by kernel_rfl) (fun _ _ _ h => h) (Or.inl ⟨by rfl, ?_⟩) hHeld ?_
  rotate_left
  · rintro w _
    go_simp
    try with_reducible rfl
  try simp only [Act.put, List.setIfInBounds_toArray, List.set_cons_zero, List.set_cons_succ]
  refine wpAnyH_takeD (i := 6) (v := ?_) rfl (by kernel_rfl) (by kernel_rfl) (by kernel_rfl) (fun _ _ _ h => h) (Or.inl ⟨by rfl, ?_⟩) hHeld ?_
  rotate_left
  · rintro w _
    go_simp
    try with_reducible rfl
  try simp only [Act.put, List.setIfInBounds_toArray, List.set_cons_zero, List.set_cons_succ]
  refine wpAnyH_two (i := 4) (j := 7) rfl rfl (by kernel_rfl) (fun K hK => ?_) (fun K hK => ?_)
  · go_simp
    refine hK.out _ _ trivial (fun hHeld => ?_)
    clear hK K
    try simp only [Act.put, List.setIfInBounds_toArray, List.set_cons_zero, List.set_cons_succ]
    refine wpAnyH_one (i := 7) rfl (by kernel_rfl) (fun K hK => ?_)
    go_simp
    refine (HC.out _).mono ?_
    rintro e w3 ⟨v2, rfl, r2, q2⟩
    have S3 := RwD.out.S.below q2 RwD.out.S.lt
    have c03 := S3.cell 0 rfl
    have B3 := RwD.out.b.wrote (Wrote.ofBelow q2 (fun _ => False)) (fun _ _ e => e)
    obtain ⟨g, cap, w4, hrun, p1, p2, p3⟩ := push_bools B3 r2 (by rw [bitsL_length]; omega) (Nat.zero_le _) (by rw [bitsL_length]; omega)
    have hgr : g ≠ r := fun e => by
      rcases p3 with h | h
      · exact RwD.out.ne (by rw [h, e])
      · have := RwD.out.S.lt
        have := q2.size
        omega
    have S4 := S3.kept (Wrote.ofGrown p2 (fun k => v.ownBlock = some k) (fun k e => e)) RwD.out.ne
    have c0x := S4.cell 0 rfl
    have f0x := S4.free 0
    have HF : Hid (RwTo w r v (l ++ bitsL n b) (w4.setCell ⟨r, 0, none⟩ (.slice (some ⟨g, 0, none⟩) (l.length + (bitsL n b).length) cap))) := Lib.hid ⟨_, ⟨S4.set 0 _, p1.kept (setCell_grown w4 r 0 _) (.inr (by simp [Value.ownBlock]; exact hgr)), by simp [Value.ownBlock]; exact hgr⟩,
      ((Wrote.ofBelow ((Below.refl _ w).drew.trans (q2.mono (Nat.le_refl _))) (fun k => k = r ∨ v.ownBlock = some k)).trans (Wrote.ofGrown p2 _ (fun k e => .inr e))).trans (Wrote.set _ w4 r 0 _ (.inl rfl)),
      fun k hk => by
        simp [Value.ownBlock] at hk
        subst hk
        exact p3.imp id (fun h => Nat.le_trans (q2.size) h)⟩
    clear S3 B3 p1 p2 p3 S4 r2 q2
    refine hK.out _ _ trivial (fun hHeld => ?_)
    clear hK K
    try simp only [Act.put, List.setIfInBounds_toArray, List.set_cons_zero, List.set_cons_succ]
    refine wpAnyH_one (i := 8) rfl (by kernel_rfl) (fun K hK => ?_)
    refine step_append_known rfl (.tmp 25) (.tmp 28) 42 rfl v v2 _ w4 rfl rfl hrun ?_
    refine hK.out _ _ trivial (fun hHeld => ?_)
    clear hK K
    try simp only [Act.put, List.setIfInBounds_toArray, List.set_cons_zero, List.set_cons_succ]
    refine wpAnyH_takeD (i := 9) (v := ?_) rfl (by kernel_rfl) (by kernel_rfl) (by kernel_rfl) (fun _ _ _ h => h) (Or.inl ⟨by rfl, ?_⟩) hHeld ?_
    rotate_left
    · rintro w _
      go_simp
      try with_reducible rfl
    try simp only [Act.put, List.setIfInBounds_toArray, List.set_cons_zero, List.set_cons_succ]
    refine wpAnyH_takeD (i := 10) (v := ?_) rfl (by kernel_rfl) (by kernel_rfl) (by kernel_rfl) (fun _ _ _ h => h) (Or.inl ⟨by rfl, ?_⟩) hHeld ?_
    rotate_left
    · rintro w _
      go_simp
      try with_reducible rfl
    try simp only [Act.put, List.setIfInBounds_toArray, List.set_cons_zero, List.set_cons_succ]
    refine wpAnyH_one (i := 11) rfl (by kernel_rfl) (fun K hK => ?_)
    go_simp
    refine hK.out _ _ trivial (fun hHeld => ?_)
    clear hK K
    try simp only [Act.put, List.setIfInBounds_toArray, List.set_cons_zero, List.set_cons_succ]
    refine wpAnyH_done (by kernel_rfl) ?_ _
    refine NoPanic.normal ?_
    clear hHeld hrun c0x f0x
    go_wp2_with fail
    go_returns
    exact ⟨rfl, HF.out⟩
  · go_simp
    refine (HC.out _).mono ?_
    rintro e w3 ⟨v2, rfl, r2, q2⟩
    have S3 := RwD.out.S.below q2 RwD.out.S.lt
    have c03 := S3.cell 0 rfl
    have B3 := RwD.out.b.wrote (Wrote.ofBelow q2 (fun _ => False)) (fun _ _ e => e)
    obtain ⟨g, cap, w4, hrun, p1, p2, p3⟩ := push_bools B3 r2 (by rw [bitsL_length]; omega) (Nat.zero_le _) (by rw [bitsL_length]; omega)
    have hgr : g ≠ r := fun e => by
      rcases p3 with h | h
      · exact RwD.out.ne (by rw [h, e])
      · have := RwD.out.S.lt
        have := q2.size
        omega
    have S4 := S3.kept (Wrote.ofGrown p2 (fun k => v.ownBlock = some k) (fun k e => e)) RwD.out.ne
    have c0x := S4.cell 0 rfl
    have f0x := S4.free 0
    have HF : Hid (RwTo w r v (l ++ bitsL n b) (w4.setCell ⟨r, 0, none⟩ (.slice (some ⟨g, 0, none⟩) (l.length + (bitsL n b).length) cap))) := Lib.hid ⟨_, ⟨S4.set 0 _, p1.kept (setCell_grown w4 r 0 _) (.inr (by simp [Value.ownBlock]; exact hgr)), by simp [Value.ownBlock]; exact hgr⟩,
      ((Wrote.ofBelow ((Below.refl _ w).drew.trans (q2.mono (Nat.le_refl _))) (fun k => k = r ∨ v.ownBlock = some k)).trans (Wrote.ofGrown p2 _ (fun k e => .inr e))).trans (Wrote.set _ w4 r 0 _ (.inl rfl)),
      fun k hk => by
        simp [Value.ownBlock] at hk
        subst hk
        exact p3.imp id (fun h => Nat.le_trans (q2.size) h)⟩
    clear S3 B3 p1 p2 p3 S4 r2 q2
    refine hK.out _ _ trivial (fun hHeld => ?_)
    clear hK K
    try simp only [Act.put, List.setIfInBounds_toArray, List.set_cons_zero, List.set_cons_succ]
    refine wpAnyH_one (i := 4) rfl (by kernel_rfl) (fun K hK => ?_)
    go_simp
    refine hK.out _ _ trivial (fun hHeld => ?_)
    clear hK K
    try simp only [Act.put, List.setIfInBounds_toArray, List.set_cons_zero, List.set_cons_succ]
    refine wpAnyH_one (i := 8) rfl (by kernel_rfl) (fun K hK => ?_)
    refine step_append_known rfl (.tmp 25) (.tmp 28) 42 rfl v v2 _ w4 rfl rfl hrun ?_
    refine hK.out _ _ trivial (fun hHeld => ?_)
    clear hK K
    try simp only [Act.put, List.setIfInBounds_toArray, List.set_cons_zero, List.set_cons_succ]
    refine wpAnyH_takeD (i := 9) (v := ?_) rfl (by kernel_rfl) (by kernel_rfl) (by kernel_rfl) (fun _ _ _ h => h) (Or.inl ⟨by rfl, ?_⟩) hHeld ?_
    rotate_left
    · rintro w _
      go_simp
      try with_reducible rfl
    try simp only [Act.put, List.setIfInBounds_toArray, List.set_cons_zero, List.set_cons_succ]
    refine wpAnyH_takeD (i := 10) (v := ?_) rfl (by kernel_rfl) (by kernel_rfl) (by kernel_rfl) (fun _ _ _ h => h) (Or.inl ⟨by rfl, ?_⟩) hHeld ?_
    rotate_left
    · rintro w _
      go_simp
      try with_reducible rfl
    try simp only [Act.put, List.setIfInBounds_toArray, List.set_cons_zero, List.set_cons_succ]
    refine wpAnyH_one (i := 11) rfl (by kernel_rfl) (fun K hK => ?_)
    go_simp
    refine hK.out _ _ trivial (fun hHeld => ?_)
    clear hK K
    try simp only [Act.put, List.setIfInBounds_toArray, List.set_cons_zero, List.set_cons_succ]
    refine wpAnyH_done (by kernel_rfl) ?_ _
    refine NoPanic.normal ?_
    clear hHeld hrun c0x f0x
    go_wp2_with fail
    go_returns
    exact ⟨rfl, HF.out⟩
theorem rput_any (r : Nat) (v : Value) (l : List Bool) (n b : Int) (hn : 0 ≤ n ∧ n < 18446744073709551616) (w : World) (h : Rw w r v l) (hlen : l.length ≤ 100000) :
    Calls Try.prog 21 #[.pointer (some ⟨r, 0, none⟩), .int .u64 n, .int .i64 b] w fun e w' => e = .returned (.int .i64 (putE n b)) ∧ RwTo w r v (putL l n b) w' := by
  by_cases hb : b < 1 ∨ 64 < b
  · have e : putE n b = 2 := by unfold putE; rw [if_pos hb]
    rw [putL, e]
    refine (rput_arg r n b hb w).mono ?_
    rintro e w' ⟨rfl, q⟩
    exact ⟨rfl, RwTo.of h q⟩
  · obtain ⟨N, rfl⟩ : ∃ N : Nat, n = N := ⟨n.toNat, by omega⟩
    obtain ⟨B, rfl⟩ : ∃ B : Nat, b = B := ⟨b.toNat, by omega⟩
    by_cases ho : (B : Int) < 64 ∧ 2 ^ (B : Int).toNat ≤ (N : Int).toNat
    · have e : putE N B = 14 := by unfold putE; rw [if_neg hb, if_pos ho]
      rw [putL, e]
      refine (rput_over r N B (by omega) (by omega) ho.2 w).mono ?_
      rintro e w' ⟨rfl, q⟩
      exact ⟨rfl, RwTo.of h q⟩
    · have e : putE N B = 0 := by unfold putE; rw [if_neg hb, if_neg ho]
      rw [putL, e, if_pos rfl]
      by_cases h64 : B < 64
      · have hlt : N < 2 ^ B := by
          rcases Nat.lt_or_ge N (2 ^ B) with h | h
          · exact h
          · exact absurd ⟨by omega, h⟩ ho
        exact rput_lt r v l N B (by omega) h64 hlt w h hlen
      · obtain rfl : B = 64 := by omega
        exact rput_64 r v l N 64 rfl (by omega) w h hlen
set_option maxRecDepth 100000 in
set_option maxHeartbeats 400000 in
theorem rwBytes_is (r : Nat) (v : Value) (l : List Bool) (s : ByteArray) (hs : s.size ≤ 1000) (hl : l.length ≤ 50000) (w : World) (h : Rw w r v l) : Calls Try.prog 20 #[.pointer (some ⟨r, 0, none⟩), .string s] w fun e w' => (∃ u, e = .returned u) ∧ RwTo w r v (l ++ ubits s.data.toList) w' := by
  have H := Lib.hid h
  clear h
  go_enter Try.func20, Try.ntmps20
  go_wp2_with fail
  go_loopw [4] (fun i wr => ∃ j : Nat, j ≤ s.size ∧ i = .int .i64 j ∧ Hid (RwTo w r v (l ++ ubits (s.data.toList.take j)) wr)) (fun i _ => s.size - (intOf i).toNat)
  case atStart => exact ⟨0, by omega, rfl, Lib.hid (by rw [List.take_zero, ubits_nil, List.append_nil]; exact RwTo.of H.out (Below.refl _ _))⟩
  case round =>
    rename_i wr
    obtain ⟨j, hj, rfl, HI⟩ := hrel
    by_cases hlt : j < s.size
    · have hlt2 : (j : Int) < s.size := by omega
      have hcw : IntKind.u64.wrap (s[j].toNat : Int) = s[j].toNat := by have hc := s[j].toNat_lt; rw [IntKind.wrap_u64]; omega
      obtain ⟨v0, k1, k2, k3⟩ := HI.out
      have hll : (l ++ ubits (s.data.toList.take j)).length ≤ 100000 := by
        rw [List.length_append, ubits_length, List.length_take]
        omega
      have hsn : l ++ ubits (s.data.toList.take j) ++ bitsL s[j].toNat 8 = l ++ ubits (s.data.toList.take (j + 1)) := by
        have e : s.data.toList.take (j + 1) = s.data.toList.take j ++ [s[j]] := by
          rw [List.take_succ_eq_append_getElem (by rw [len_bytes]; exact hlt)]
          rfl
        rw [e, ubits_append, List.append_assoc]
        congr 1
      generalize l ++ ubits (s.data.toList.take j) = L0 at hll hsn k1
      have c0 := k1.S.cell 0 rfl
      have RwD : Hid (Rw wr.drew r v0 L0) := Lib.hid ⟨k1.S.drew, k1.b.drew, k1.ne⟩
      have HC := Lib.hid (fun w => bitsOf_is s[j].toNat 8 (by omega) (by have hc := s[j].toNat_lt; omega) w)
      have K2 := Lib.hid k2
      have K3 := Lib.hid k3
      have HSN := Lib.hid hsn
      clear k1 k2 k3 HI H hsn
      go_upto_region 3 with fail
      refine wp_region_noPanic ?_
      refine wp_region_held_drew (S := (fun _ => True)) (by kernel_rfl) (trivial) (fun hHeld => ?_)
      refine wpAnyH_takeD (i := 0) (v := ?_) rfl (by kernel_rfl) (by kernel_rfl) (by kernel_rfl) (fun _ _ _ h => h) (Or.inl ⟨by rfl, ?_⟩) hHeld ?_
      rotate_left
      · rintro w _
        go_simp
        try with_reducible rfl
      try simp only [Act.put, List.setIfInBounds_toArray, List.set_cons_zero, List.set_cons_succ]
      refine wpAnyH_takeD (i := 1) (v := ?_) rfl (by kernel_rfl) (by kernel_rfl) (by kernel_rfl) (fun _ _ _ h => h) (Or.inl ⟨by rfl, ?_⟩) hHeld ?_
      rotate_left
      · rintro w _
        go_simp
        try with_reducible rfl
      try simp only [Act.put, List.setIfInBounds_toArray, List.set_cons_zero, List.set_cons_succ]
      refine wpAnyH_takeD (i := 2) (v := ?_) rfl (by kernel_rfl) (by kernel_rfl) (by kernel_rfl) (fun _ _ _ h => h) (Or.inl ⟨by rfl, ?_⟩) hHeld ?_
      rotate_left
      · rintro w _
        go_simp
        try with_reducible rfl
      try simp only [Act.put, List.setIfInBounds_toArray, List.set_cons_zero, List.set_cons_succ]
      refine wpAnyH_takeD (i := 3) (v := ?_) rfl (by kernel_rfl) (by kernel_rfl) (by kernel_rfl) (fun _ _ _ h => h) (Or.inl ⟨by rfl, ?_⟩) hHeld ?_
      rotate_left
      · rintro w _
        go_simp
        try with_reducible rfl
      try simp only [Act.put, List.setIfInBounds_toArray, List.set_cons_zero, List.set_cons_succ]
      refine wpAnyH_takeD (i := 5) (v := ?_) rfl (by kernel_rfl) (by kernel_rfl) (by kernel_rfl) (fun _ _ _ h => h) (Or.inl ⟨by rfl, ?_⟩) hHeld ?_
      rotate_left
      · rintro w _
        go_simp
        try with_reducible rfl
      try simp only [Act.put, List.setIfInBounds_toArray, List.set_cons_zero, List.set_cons_succ]
      refine wpAnyH_takeD (i := 6) (v := ?_) rfl (by kernel_rfl) (by kernel_rfl) (by kernel_rfl) (fun _ _ _ h => h) (Or.inl ⟨by rfl, ?_⟩) hHeld ?_
      rotate_left
      · rintro w _
        go_simp
        try with_reducible rfl
      try simp only [Act.put, List.setIfInBounds_toArray, List.set_cons_zero, List.set_cons_succ]
      refine wpAnyH_takeD (i := 7) (v := ?_) rfl (by kernel_rfl) (by kernel_rfl) (by kernel_rfl) (fun _ _ _ h => h) (Or.inl ⟨by rfl, ?_⟩) hHeld ?_
      rotate_left
      · rintro w _
        go_simp
        try with_reducible rfl
      try simp only [Act.put, List.setIfInBounds_toArray, List.set_cons_zero, List.set_cons_succ]
      refine wpAnyH_takeD (i := 8) (v := ?_) rfl (by kernel_rfl) (by kernel_rfl) (by kernel_rfl) (fun _ _ _ h => h) (Or.inl ⟨by rfl, ?_⟩) hHeld ?_
      rotate_left
      · rintro w _
        go_simp
        try with_reducible rfl
      try simp only [Act.put, List.setIfInBounds_toArray, List.set_cons_zero, List.set_cons_succ]
      refine wpAnyH_two (i := 4) (j := 9) rfl rfl (by kernel_rfl) (fun K hK => ?_) (fun K hK => ?_)
      · go_simp
        refine hK.out _ _ trivial (fun hHeld => ?_)
        clear hK K
        try simp only [Act.put, List.setIfInBounds_toArray, List.set_cons_zero, List.set_cons_succ]
        refine wpAnyH_one (i := 9) rfl (by kernel_rfl) (fun K hK => ?_)
        go_simp
        refine (HC.out _).mono ?_
        rintro e w3 ⟨v2, rfl, r2, q2⟩
        have S3 := RwD.out.S.below q2 RwD.out.S.lt
        have c03 := S3.cell 0 rfl
        have B3 := RwD.out.b.wrote (Wrote.ofBelow q2 (fun _ => False)) (fun _ _ e => e)
        obtain ⟨g, cap, w4, hrun, p1, p2, p3⟩ := push_bools B3 r2 (by rw [bitsL_length]; omega) (Nat.zero_le _) (by rw [bitsL_length]; omega)
        have hgr : g ≠ r := fun e => by
          rcases p3 with h | h
          · exact RwD.out.ne (by rw [h, e])
          · have := RwD.out.S.lt
            have := q2.size
            omega
        have S4 := S3.kept (Wrote.ofGrown p2 (fun k => v0.ownBlock = some k) (fun k e => e)) RwD.out.ne
        have c0x := S4.cell 0 rfl
        have f0x := S4.free 0
        have HF : Hid (RwTo wr r v0 (l ++ ubits (s.data.toList.take (j + 1))) (w4.setCell ⟨r, 0, none⟩ (.slice (some ⟨g, 0, none⟩) (L0.length + (bitsL s[j].toNat 8).length) cap))) := Lib.hid ⟨_, ⟨S4.set 0 _, (by rw [HSN.out] at p1; exact p1.kept (setCell_grown w4 r 0 _) (.inr (by simp [Value.ownBlock]; exact hgr))), by simp [Value.ownBlock]; exact hgr⟩,
          ((Wrote.ofBelow ((Below.refl _ wr).drew.trans (q2.mono (Nat.le_refl _))) (fun k => k = r ∨ v0.ownBlock = some k)).trans (Wrote.ofGrown p2 _ (fun k e => .inr e))).trans (Wrote.set _ w4 r 0 _ (.inl rfl)),
          fun k hk => by
            simp [Value.ownBlock] at hk
            subst hk
            exact p3.imp id (fun h => Nat.le_trans (q2.size) h)⟩
        clear S3 B3 p1 p2 p3 S4 r2 q2
        refine hK.out _ _ trivial (fun hHeld => ?_)
        clear hK K
        try simp only [Act.put, List.setIfInBounds_toArray, List.set_cons_zero, List.set_cons_succ]
        refine wpAnyH_one (i := 10) rfl (by kernel_rfl) (fun K hK => ?_)
        refine step_append_known rfl (.tmp 15) (.tmp 20) 42 rfl v0 v2 _ w4 rfl rfl hrun ?_
        refine hK.out _ _ trivial (fun hHeld => ?_)
        clear hK K
        try simp only [Act.put, List.setIfInBounds_toArray, List.set_cons_zero, List.set_cons_succ]
        refine wpAnyH_takeD (i := 11) (v := ?_) rfl (by kernel_rfl) (by kernel_rfl) (by kernel_rfl) (fun _ _ _ h => h) (Or.inl ⟨by rfl, ?_⟩) hHeld ?_
        rotate_left
        · rintro w _
          go_simp
          try with_reducible rfl
        try simp only [Act.put, List.setIfInBounds_toArray, List.set_cons_zero, List.set_cons_succ]
        refine wpAnyH_takeD (i := 12) (v := ?_) rfl (by kernel_rfl) (by kernel_rfl) (by kernel_rfl) (fun _ _ _ h => h) (Or.inl ⟨by rfl, ?_⟩) hHeld ?_
        rotate_left
        · rintro w _
          go_simp
          try with_reducible rfl
        try simp only [Act.put, List.setIfInBounds_toArray, List.set_cons_zero, List.set_cons_succ]
        refine wpAnyH_one (i := 13) rfl (by kernel_rfl) (fun K hK => ?_)
        go_simp
        refine hK.out _ _ trivial (fun hHeld => ?_)
        clear hK K
        try simp only [Act.put, List.setIfInBounds_toArray, List.set_cons_zero, List.set_cons_succ]
        refine wpAnyH_done (by kernel_rfl) ?_ _
        refine NoPanic.normal ?_
        clear hHeld hrun c0x f0x
        have HG := Lib.hid (RwTo.join K2.out K3.out HF.out)
        clear HF K2 K3
        go_wp2_with fail
        exact ⟨⟨j + 1, by omega, by go_num, HG⟩, by simp [intOf]; omega⟩
      · go_simp
        refine (HC.out _).mono ?_
        rintro e w3 ⟨v2, rfl, r2, q2⟩
        have S3 := RwD.out.S.below q2 RwD.out.S.lt
        have c03 := S3.cell 0 rfl
        have B3 := RwD.out.b.wrote (Wrote.ofBelow q2 (fun _ => False)) (fun _ _ e => e)
        obtain ⟨g, cap, w4, hrun, p1, p2, p3⟩ := push_bools B3 r2 (by rw [bitsL_length]; omega) (Nat.zero_le _) (by rw [bitsL_length]; omega)
        have hgr : g ≠ r := fun e => by
          rcases p3 with h | h
          · exact RwD.out.ne (by rw [h, e])
          · have := RwD.out.S.lt
            have := q2.size
            omega
        have S4 := S3.kept (Wrote.ofGrown p2 (fun k => v0.ownBlock = some k) (fun k e => e)) RwD.out.ne
        have c0x := S4.cell 0 rfl
        have f0x := S4.free 0
        have HF : Hid (RwTo wr r v0 (l ++ ubits (s.data.toList.take (j + 1))) (w4.setCell ⟨r, 0, none⟩ (.slice (some ⟨g, 0, none⟩) (L0.length + (bitsL s[j].toNat 8).length) cap))) := Lib.hid ⟨_, ⟨S4.set 0 _, (by rw [HSN.out] at p1; exact p1.kept (setCell_grown w4 r 0 _) (.inr (by simp [Value.ownBlock]; exact hgr))), by simp [Value.ownBlock]; exact hgr⟩,
          ((Wrote.ofBelow ((Below.refl _ wr).drew.trans (q2.mono (Nat.le_refl _))) (fun k => k = r ∨ v0.ownBlock = some k)).trans (Wrote.ofGrown p2 _ (fun k e => .inr e))).trans (Wrote.set _ w4 r 0 _ (.inl rfl)),
          fun k hk => by
            simp [Value.ownBlock] at hk
            subst hk
            exact p3.imp id (fun h => Nat.le_trans (q2.size) h)⟩
        clear S3 B3 p1 p2 p3 S4 r2 q2
        refine hK.out _ _ trivial (fun hHeld => ?_)
        clear hK K
        try simp only [Act.put, List.setIfInBounds_toArray, List.set_cons_zero, List.set_cons_succ]
        refine wpAnyH_one (i := 4) rfl (by kernel_rfl) (fun K hK => ?_)
        go_simp
        refine hK.out _ _ trivial (fun hHeld => ?_)
        clear hK K
        try simp only [Act.put, List.setIfInBounds_toArray, List.set_cons_zero, List.set_cons_succ]
        refine wpAnyH_one (i := 10) rfl (by kernel_rfl) (fun K hK => ?_)
        refine step_append_known rfl (.tmp 15) (.tmp 20) 42 rfl v0 v2 _ w4 rfl rfl hrun ?_
        refine hK.out _ _ trivial (fun hHeld => ?_)
        clear hK K
        try simp only [Act.put, List.setIfInBounds_toArray, List.set_cons_zero, List.set_cons_succ]
        refine wpAnyH_takeD (i := 11) (v := ?_) rfl (by kernel_rfl) (by kernel_rfl) (by kernel_rfl) (fun _ _ _ h => h) (Or.inl ⟨by rfl, ?_⟩) hHeld ?_
        rotate_left
        · rintro w _
          go_simp
          try with_reducible rfl
        try simp only [Act.put, List.setIfInBounds_toArray, List.set_cons_zero, List.set_cons_succ]
        refine wpAnyH_takeD (i := 12) (v := ?_) rfl (by kernel_rfl) (by kernel_rfl) (by kernel_rfl) (fun _ _ _ h => h) (Or.inl ⟨by rfl, ?_⟩) hHeld ?_
        rotate_left
        · rintro w _
          go_simp
          try with_reducible rfl
        try simp only [Act.put, List.setIfInBounds_toArray, List.set_cons_zero, List.set_cons_succ]
        refine wpAnyH_one (i := 13) rfl (by kernel_rfl) (fun K hK => ?_)
        go_simp
        refine hK.out _ _ trivial (fun hHeld => ?_)
        clear hK K
        try simp only [Act.put, List.setIfInBounds_toArray, List.set_cons_zero, List.set_cons_succ]
        refine wpAnyH_done (by kernel_rfl) ?_ _
        refine NoPanic.normal ?_
        clear hHeld hrun c0x f0x
        have HG := Lib.hid (RwTo.join K2.out K3.out HF.out)
        clear HF K2 K3
        go_wp2_with fail
        exact ⟨⟨j + 1, by omega, by go_num, HG⟩, by simp [intOf]; omega⟩
    · obtain rfl : j = s.size := by omega
      go_wp2_with fail
      go_end0
      have e : s.data.toList.take s.size = s.data.toList := List.take_of_length_le (by rw [len_bytes]; omega)
      rw [e] at HI
      exact ⟨⟨_, rfl⟩, HI.out⟩

end Go.Proofs.Ytljdkaajlmcpkaa
