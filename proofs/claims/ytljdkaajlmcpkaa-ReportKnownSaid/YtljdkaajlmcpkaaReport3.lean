/-
  report.Decode: by contract.
-/
import Derived.Test.YtljdkaajlmcpkaaReport2
import Derived.Test.YtljdkaajlmcpkaaHeld
namespace Go.Proofs.Ytljdkaajlmcpkaa
open Go.RowKit

abbrev S8 (b0 b1 b2 b3 b4 b5 b6 b7 : UInt8) : ByteArray := ⟨#[b0, b1, b2, b3, b4, b5, b6, b7]⟩
theorem str8 (s : ByteArray) (h : s.size = 8) : ∃ b0 b1 b2 b3 b4 b5 b6 b7, s = S8 b0 b1 b2 b3 b4 b5 b6 b7 := by
  obtain ⟨⟨l⟩⟩ := s
  have hl : l.length = 8 := h
  match l, hl with
  | [b0, b1, b2, b3, b4, b5, b6, b7], _ => exact ⟨b0, b1, b2, b3, b4, b5, b6, b7, rfl⟩
theorem rep0 (w : World) : (zeroValue TRep).run Try.prog w = .ok (repV 0 0 0) w := by kernel_rfl

set_option maxRecDepth 100000 in
set_option maxHeartbeats 400000 in
theorem decode_form (s : ByteArray) (h : s.size ≠ 8) (w : World) : Calls Try.prog 28 #[.string s] w fun e w' => e = .returned (.tuple #[repV 0 0 0, .int .i64 4]) ∧ Below w.heap.size w w' := by
  have h' : ¬ ((s.size : Int) = 8) := by omega
  go_enter Try.func28, Try.ntmps28
  go_wp2
  go_returns
  exact ⟨rfl, (Below.refl _ _).alloc (Nat.le_refl _) _⟩

section
variable (b0 b1 b2 b3 b4 b5 b6 b7 : UInt8)
theorem ex07 : (S8 b0 b1 b2 b3 b4 b5 b6 b7).extract 0 7 = ⟨#[b0, b1, b2, b3, b4, b5, b6]⟩ := by apply ByteArray.ext; simp
theorem ex01 : (S8 b0 b1 b2 b3 b4 b5 b6 b7).extract 0 1 = ⟨#[b0]⟩ := by apply ByteArray.ext; simp
theorem ex15 : (S8 b0 b1 b2 b3 b4 b5 b6 b7).extract 1 5 = ⟨#[b1, b2, b3, b4]⟩ := by apply ByteArray.ext; simp
theorem ex57 : (S8 b0 b1 b2 b3 b4 b5 b6 b7).extract 5 7 = ⟨#[b5, b6]⟩ := by apply ByteArray.ext; simp
theorem at7 (h : 7 < (S8 b0 b1 b2 b3 b4 b5 b6 b7).size) : (S8 b0 b1 b2 b3 b4 b5 b6 b7)[7] = b7 := rfl

theorem sumE (s : ByteArray) (c : Nat) (h : Hid (crcL s.data.toList = c)) (hs : s.size ≤ maxLen) (w : World) : Calls Try.prog 30 #[.string s] w fun e w' => e = .returned (.int .u8 c) ∧ Below w.heap.size w w' := by
  obtain rfl := h.out
  exact sum_any s w hs
end
/-- The first part: bytes whose sum is not the last one. -/
theorem rep_new (w : World) : ∃ w1, w.alloc (Obj.cells #[Value.int IntKind.i64 0, Value.int IntKind.u32 0, Value.int IntKind.i64 0] TRep) = w1 ∧ Hid (Blk w1 w.heap.size [.int .i64 0, .int .u32 0, .int .i64 0] TRep) ∧ Hid (Below w.heap.size w w1) :=
  ⟨_, rfl, Lib.hid (Blk.new w [.int .i64 0, .int .u32 0, .int .i64 0] TRep), Lib.hid ((Below.refl _ _).alloc (Nat.le_refl _) _)⟩
theorem set_three (w : World) (b : Nat) (x y z : Value) (h0 : w.cell? ⟨b, 0, none⟩ = some x) (h1 : w.cell? ⟨b, 1, none⟩ = some y) (h2 : w.cell? ⟨b, 2, none⟩ = some z) :
    (∀ u, (w.setCell ⟨b, 0, none⟩ u).cell? ⟨b, 0, none⟩ = some u) ∧ (∀ u v, ((w.setCell ⟨b, 0, none⟩ u).setCell ⟨b, 1, none⟩ v).cell? ⟨b, 1, none⟩ = some v) ∧ (∀ u v t, (((w.setCell ⟨b, 0, none⟩ u).setCell ⟨b, 1, none⟩ v).setCell ⟨b, 2, none⟩ t).cell? ⟨b, 2, none⟩ = some t) := by
  refine ⟨fun u => World.cell?_setCell_same _ _ _ h0, fun u v => World.cell?_setCell_same _ _ _ (u := y) ?_, fun u v t => World.cell?_setCell_same _ _ _ (u := z) ?_⟩
  · rw [World.cell?_setCell_other _ _ _ _ (by simp)]; exact h1
  · rw [World.cell?_setCell_other _ _ _ _ (by simp), World.cell?_setCell_other _ _ _ _ (by simp)]; exact h2
set_option maxRecDepth 100000 in
set_option maxHeartbeats 400000 in
theorem decode_sum (s : ByteArray) (c d : Nat) (hs : s.size = 8) (hc : Hid (crcL (s.extract 0 7).data.toList = c)) (hd : s[7].toNat = d) (h : c ≠ d) (w : World) : Calls Try.prog 28 #[.string s] w fun e w' => e = .returned (.tuple #[repV 0 0 0, .int .i64 10]) ∧ Below w.heap.size w w' := by
  have h' : ¬ ((c : Int) = d) := by omega
  have h8 : (s.size : Int) = 8 := by omega
  have h7 : (7 : Int) < s.size := by omega
  have h77 : 7 < s.size := by omega
  have hx : (s.extract 0 7).size ≤ maxLen := by simp [maxLen]; omega
  obtain ⟨w1, hw1, B1, q1⟩ := rep_new w
  go_enter Try.func28, Try.ntmps28
  go_upto_region 3 with fail
  clear hw1
  have hne : Nonempty (WIn (Below w1.heap.size w1)) := ⟨⟨w1, Below.refl _ _⟩⟩
  refine wp_region_inv (Below w1.heap.size w1) (by kernel_rfl) (by kernel_rfl) (Below.refl _ _).drew ?_
  repeat (go_big_quiet_step ((go_at_call 30; exact quiet_call _ (sumE _ c hc hx _))))
  refine wpQuiet_nil ?_
  intro w2 q2
  have B2 := B1.out.below q2 B1.out.lt
  have c0 := B2.cell 0 rfl
  have c1 := B2.cell 1 rfl
  have c2 := B2.cell 2 rfl
  have f0 := B2.free 0
  have f1 := B2.free 1
  have f2 := B2.free 2
  have HB2 := Lib.hid B2
  have Q2 : Hid (Below w.heap.size w w2) := Lib.hid (q1.out.trans (q2.mono q1.out.size))
  clear B2 q2
  have g0 := set_three w2 w.heap.size _ _ _ c0 c1 c2
  have g00 := g0.1
  have g01 := g0.2.1
  have g02 := g0.2.2
  clear g0
  go_wp2_with fail
  refine bodyPost_ret (by simp [results, Try.results28, go_sem, g00, g01, g02]; try rfl) rfl ?_
  exact ⟨rfl, (((Q2.out.setCell (Nat.le_refl _) _).setCell (Nat.le_refl _) _).setCell (Nat.le_refl _) _)⟩

/-- What comes out of bytes whose sum is right. -/
def decV (T Q X : Nat) : Value := if repE T Q ((X : Int) - 5000) = 0 then repV T Q ((X : Int) - 5000) else repV 0 0 0
theorem numE (s : ByteArray) (c : Nat) (h : Hid (numL s.data.toList = c)) (hs : s.size ≤ 4) (w : World) : Calls Try.prog 44 #[.string s] w fun e w' => e = .returned (.int .i64 c) ∧ w = w' := by
  obtain rfl := h.out
  exact number_is s w hs
set_option maxRecDepth 100000 in
set_option maxHeartbeats 1600000 in
theorem decode_any (s : ByteArray) (c T Q X : Nat) (hs : s.size = 8) (hc : Hid (crcL (s.extract 0 7).data.toList = c)) (h : s[7].toNat = c)
    (s1 s2 s3 : ByteArray) (e1 : s.extract 0 1 = s1) (e2 : s.extract 1 5 = s2) (e3 : s.extract 5 7 = s3)
    (hT : Hid (numL s1.data.toList = T)) (hQ : Hid (numL s2.data.toList = Q)) (hX : Hid (numL s3.data.toList = X)) (hQ2 : Q < 4294967296) (hX2 : X < 65536) (w : World) :
    Calls Try.prog 28 #[.string s] w fun e w' => e = .returned (.tuple #[decV T Q X, .int .i64 (repE T Q ((X : Int) - 5000))]) ∧ Below w.heap.size w w' := by
  have h8 : (s.size : Int) = 8 := by omega
  have h7 : (7 : Int) < s.size := by omega
  have h77 : 7 < s.size := by omega
  have h71 : (7 : Int) ≤ s.size := by omega
  have h72 : (5 : Int) ≤ s.size := by omega
  have h73 : (1 : Int) ≤ s.size := by omega
  have hx : (s.extract 0 7).size ≤ maxLen := by simp [maxLen]; omega
  have hy1 : s1.size ≤ 4 := by rw [← e1]; simp; omega
  have hy2 : s2.size ≤ 4 := by rw [← e2]; simp; omega
  have hy3 : s3.size ≤ 4 := by rw [← e3]; simp; omega
  obtain ⟨w1, hw1, B1, q1⟩ := rep_new w
  go_enter Try.func28, Try.ntmps28
  go_upto_region 3 with fail
  clear hw1
  have hne : Nonempty (WIn (Below w1.heap.size w1)) := ⟨⟨w1, Below.refl _ _⟩⟩
  refine wp_region_inv (Below w1.heap.size w1) (by kernel_rfl) (by kernel_rfl) (Below.refl _ _).drew ?_
  repeat (go_big_quiet_step ((go_at_call 30; exact quiet_call _ (sumE _ c hc hx _))))
  refine wpQuiet_nil ?_
  intro w2 q2
  have B2 := B1.out.below q2 B1.out.lt
  have HB2 := Lib.hid B2
  have Q2 : Hid (Below w.heap.size w w2) := Lib.hid (q1.out.trans (q2.mono q1.out.size))
  clear B2 q2 B1 q1 hne
  go_upto_region 5 with fail
  have HWQ : Hid (IntKind.u32.wrap (Q : Int) = Q) := Lib.hid (by rw [IntKind.wrap_u32]; omega)
  have HWX : Hid (IntKind.i64.wrap ((X : Int) - 5000) = (X : Int) - 5000) := Lib.hid (by rw [IntKind.wrap_i64]; omega)
  go_cut [4] (fun p wx => p = .pointer (some ⟨w2.heap.size, 0, none⟩) ∧ wx = w2.drew.alloc (.cells #[.int .i64 T, .int .u32 Q, .int .i64 ((X : Int) - 5000)] TRep))
  case first =>
    refine wp_region_noPanic ?_
    refine wp_region_held_drew (S := (fun _ => True)) (by kernel_rfl) (trivial) (fun hHeld => ?_)
    refine wpAnyH_takeD (i := 0) (v := ?_) rfl (by kernel_rfl) (by kernel_rfl) (by kernel_rfl) (fun _ _ _ h => h) (Or.inl ⟨by rfl, ?_⟩) hHeld ?_
    rotate_left
    · rintro w hSw
      go_simp
      try with_reducible rfl
    try simp only [Act.put, List.setIfInBounds_toArray, List.set_cons_zero, List.set_cons_succ]
    refine wpAnyH_takeD (i := 1) (v := ?_) rfl (by kernel_rfl) (by kernel_rfl) (by kernel_rfl) (fun _ _ _ h => h) (Or.inl ⟨by rfl, ?_⟩) hHeld ?_
    rotate_left
    · rintro w hSw
      go_simp
      try with_reducible rfl
    try simp only [Act.put, List.setIfInBounds_toArray, List.set_cons_zero, List.set_cons_succ]
    refine wpAnyH_takeD (i := 3) (v := ?_) rfl (by kernel_rfl) (by kernel_rfl) (by kernel_rfl) (fun _ _ _ h => h) (Or.inl ⟨by rfl, ?_⟩) hHeld ?_
    rotate_left
    · rintro w hSw
      go_simp
      try with_reducible rfl
    try simp only [Act.put, List.setIfInBounds_toArray, List.set_cons_zero, List.set_cons_succ]
    refine wpAnyH_takeD (i := 4) (v := ?_) rfl (by kernel_rfl) (by kernel_rfl) (by kernel_rfl) (fun _ _ _ h => h) (Or.inl ⟨by rfl, ?_⟩) hHeld ?_
    rotate_left
    · rintro w hSw
      go_simp
      try with_reducible rfl
    try simp only [Act.put, List.setIfInBounds_toArray, List.set_cons_zero, List.set_cons_succ]
    refine wpAnyH_takeD (i := 7) (v := ?_) rfl (by kernel_rfl) (by kernel_rfl) (by kernel_rfl) (fun _ _ _ h => h) (Or.inl ⟨by rfl, ?_⟩) hHeld ?_
    rotate_left
    · rintro w hSw
      go_simp
      try with_reducible rfl
    try simp only [Act.put, List.setIfInBounds_toArray, List.set_cons_zero, List.set_cons_succ]
    refine wpAnyH_takeD (i := 8) (v := ?_) rfl (by kernel_rfl) (by kernel_rfl) (by kernel_rfl) (fun _ _ _ h => h) (Or.inl ⟨by rfl, ?_⟩) hHeld ?_
    rotate_left
    · rintro w hSw
      go_simp
      try with_reducible rfl
    try simp only [Act.put, List.setIfInBounds_toArray, List.set_cons_zero, List.set_cons_succ]
    refine wpAnyH_two (i := 2) (j := 12) rfl rfl (by kernel_rfl) (fun K hK => ?_) (fun K hK => ?_)
    · go_simp
      refine (numE s1 T hT hy1 _).mono ?_
      rintro e _ ⟨rfl, rfl⟩
      refine hK.out _ _ trivial (fun hHeld => ?_)
      clear hK K
      try simp only [Act.put, List.setIfInBounds_toArray, List.set_cons_zero, List.set_cons_succ]
      refine wpAnyH_two (i := 5) (j := 12) rfl rfl (by kernel_rfl) (fun K hK => ?_) (fun K hK => ?_)
      · go_simp
        refine (numE s2 Q hQ hy2 _).mono ?_
        rintro e _ ⟨rfl, rfl⟩
        refine hK.out _ _ trivial (fun hHeld => ?_)
        clear hK K
        try simp only [Act.put, List.setIfInBounds_toArray, List.set_cons_zero, List.set_cons_succ]
        refine wpAnyH_takeD (i := 6) (v := ?_) rfl (by kernel_rfl) (by kernel_rfl) (by kernel_rfl) (fun _ _ _ h => h) (Or.inl ⟨by rfl, ?_⟩) hHeld ?_
        rotate_left
        · rintro w hSw
          go_simp
          try with_reducible rfl
        try simp only [Act.put, List.setIfInBounds_toArray, List.set_cons_zero, List.set_cons_succ]
        refine wpAnyH_two (i := 9) (j := 12) rfl rfl (by kernel_rfl) (fun K hK => ?_) (fun K hK => ?_)
        · go_simp
          refine (numE s3 X hX hy3 _).mono ?_
          rintro e _ ⟨rfl, rfl⟩
          refine hK.out _ _ trivial (fun hHeld => ?_)
          clear hK K
          try simp only [Act.put, List.setIfInBounds_toArray, List.set_cons_zero, List.set_cons_succ]
          refine wpAnyH_takeD (i := 10) (v := ?_) rfl (by kernel_rfl) (by kernel_rfl) (by kernel_rfl) (fun _ _ _ h => h) (Or.inl ⟨by rfl, ?_⟩) hHeld ?_
          rotate_left
          · rintro w hSw
            go_simp
            try with_reducible rfl
          try simp only [Act.put, List.setIfInBounds_toArray, List.set_cons_zero, List.set_cons_succ]
          refine wpAnyH_takeD (i := 11) (v := ?_) rfl (by kernel_rfl) (by kernel_rfl) (by kernel_rfl) (fun _ _ _ h => h) (Or.inl ⟨by rfl, ?_⟩) hHeld ?_
          rotate_left
          · rintro w hSw
            go_simp
            try with_reducible rfl
          try simp only [Act.put, List.setIfInBounds_toArray, List.set_cons_zero, List.set_cons_succ]
          refine wpAnyH_one (i := 12) rfl (by kernel_rfl) (fun K hK => ?_)
          go_simp
          refine hK.out _ _ trivial (fun hHeld => ?_)
          clear hK K
          try simp only [Act.put, List.setIfInBounds_toArray, List.set_cons_zero, List.set_cons_succ]
          refine wpAnyH_one (i := 13) rfl (by kernel_rfl) (fun K hK => ?_)
          go_simp
          refine hK.out _ _ trivial (fun hHeld => ?_)
          clear hK K
          try simp only [Act.put, List.setIfInBounds_toArray, List.set_cons_zero, List.set_cons_succ]
          refine wpAnyH_done (by kernel_rfl) ?_ _
          refine NoPanic.normal ?_
          go_wp2_with fail
          go_meet
          case rel => exact ⟨rfl, by rw [HWQ.out, HWX.out]; rfl⟩
        · go_simp
          refine hK.out _ _ trivial (fun hHeld => ?_)
          clear hK K
          try simp only [Act.put, List.setIfInBounds_toArray, List.set_cons_zero, List.set_cons_succ]
          refine wpAnyH_one (i := 9) rfl (by kernel_rfl) (fun K hK => ?_)
          go_simp
          refine (numE s3 X hX hy3 _).mono ?_
          rintro e _ ⟨rfl, rfl⟩
          refine hK.out _ _ trivial (fun hHeld => ?_)
          clear hK K
          try simp only [Act.put, List.setIfInBounds_toArray, List.set_cons_zero, List.set_cons_succ]
          refine wpAnyH_takeD (i := 10) (v := ?_) rfl (by kernel_rfl) (by kernel_rfl) (by kernel_rfl) (fun _ _ _ h => h) (Or.inl ⟨by rfl, ?_⟩) hHeld ?_
          rotate_left
          · rintro w hSw
            go_simp
            try with_reducible rfl
          try simp only [Act.put, List.setIfInBounds_toArray, List.set_cons_zero, List.set_cons_succ]
          refine wpAnyH_takeD (i := 11) (v := ?_) rfl (by kernel_rfl) (by kernel_rfl) (by kernel_rfl) (fun _ _ _ h => h) (Or.inl ⟨by rfl, ?_⟩) hHeld ?_
          rotate_left
          · rintro w hSw
            go_simp
            try with_reducible rfl
          try simp only [Act.put, List.setIfInBounds_toArray, List.set_cons_zero, List.set_cons_succ]
          refine wpAnyH_one (i := 13) rfl (by kernel_rfl) (fun K hK => ?_)
          go_simp
          refine hK.out _ _ trivial (fun hHeld => ?_)
          clear hK K
          try simp only [Act.put, List.setIfInBounds_toArray, List.set_cons_zero, List.set_cons_succ]
          refine wpAnyH_done (by kernel_rfl) ?_ _
          refine NoPanic.normal ?_
          go_wp2_with fail
          go_meet
          case rel => exact ⟨rfl, by rw [HWQ.out, HWX.out]; rfl⟩
      · go_simp
        refine hK.out _ _ trivial (fun hHeld => ?_)
        clear hK K
        try simp only [Act.put, List.setIfInBounds_toArray, List.set_cons_zero, List.set_cons_succ]
        refine wpAnyH_one (i := 5) rfl (by kernel_rfl) (fun K hK => ?_)
        go_simp
        refine (numE s2 Q hQ hy2 _).mono ?_
        rintro e _ ⟨rfl, rfl⟩
        refine hK.out _ _ trivial (fun hHeld => ?_)
        clear hK K
        try simp only [Act.put, List.setIfInBounds_toArray, List.set_cons_zero, List.set_cons_succ]
        refine wpAnyH_takeD (i := 6) (v := ?_) rfl (by kernel_rfl) (by kernel_rfl) (by kernel_rfl) (fun _ _ _ h => h) (Or.inl ⟨by rfl, ?_⟩) hHeld ?_
        rotate_left
        · rintro w hSw
          go_simp
          try with_reducible rfl
        try simp only [Act.put, List.setIfInBounds_toArray, List.set_cons_zero, List.set_cons_succ]
        refine wpAnyH_one (i := 9) rfl (by kernel_rfl) (fun K hK => ?_)
        go_simp
        refine (numE s3 X hX hy3 _).mono ?_
        rintro e _ ⟨rfl, rfl⟩
        refine hK.out _ _ trivial (fun hHeld => ?_)
        clear hK K
        try simp only [Act.put, List.setIfInBounds_toArray, List.set_cons_zero, List.set_cons_succ]
        refine wpAnyH_takeD (i := 10) (v := ?_) rfl (by kernel_rfl) (by kernel_rfl) (by kernel_rfl) (fun _ _ _ h => h) (Or.inl ⟨by rfl, ?_⟩) hHeld ?_
        rotate_left
        · rintro w hSw
          go_simp
          try with_reducible rfl
        try simp only [Act.put, List.setIfInBounds_toArray, List.set_cons_zero, List.set_cons_succ]
        refine wpAnyH_takeD (i := 11) (v := ?_) rfl (by kernel_rfl) (by kernel_rfl) (by kernel_rfl) (fun _ _ _ h => h) (Or.inl ⟨by rfl, ?_⟩) hHeld ?_
        rotate_left
        · rintro w hSw
          go_simp
          try with_reducible rfl
        try simp only [Act.put, List.setIfInBounds_toArray, List.set_cons_zero, List.set_cons_succ]
        refine wpAnyH_one (i := 13) rfl (by kernel_rfl) (fun K hK => ?_)
        go_simp
        refine hK.out _ _ trivial (fun hHeld => ?_)
        clear hK K
        try simp only [Act.put, List.setIfInBounds_toArray, List.set_cons_zero, List.set_cons_succ]
        refine wpAnyH_done (by kernel_rfl) ?_ _
        refine NoPanic.normal ?_
        go_wp2_with fail
        go_meet
        case rel => exact ⟨rfl, by rw [HWQ.out, HWX.out]; rfl⟩
    · go_simp
      refine hK.out _ _ trivial (fun hHeld => ?_)
      clear hK K
      try simp only [Act.put, List.setIfInBounds_toArray, List.set_cons_zero, List.set_cons_succ]
      refine wpAnyH_one (i := 2) rfl (by kernel_rfl) (fun K hK => ?_)
      go_simp
      refine (numE s1 T hT hy1 _).mono ?_
      rintro e _ ⟨rfl, rfl⟩
      refine hK.out _ _ trivial (fun hHeld => ?_)
      clear hK K
      try simp only [Act.put, List.setIfInBounds_toArray, List.set_cons_zero, List.set_cons_succ]
      refine wpAnyH_one (i := 5) rfl (by kernel_rfl) (fun K hK => ?_)
      go_simp
      refine (numE s2 Q hQ hy2 _).mono ?_
      rintro e _ ⟨rfl, rfl⟩
      refine hK.out _ _ trivial (fun hHeld => ?_)
      clear hK K
      try simp only [Act.put, List.setIfInBounds_toArray, List.set_cons_zero, List.set_cons_succ]
      refine wpAnyH_takeD (i := 6) (v := ?_) rfl (by kernel_rfl) (by kernel_rfl) (by kernel_rfl) (fun _ _ _ h => h) (Or.inl ⟨by rfl, ?_⟩) hHeld ?_
      rotate_left
      · rintro w hSw
        go_simp
        try with_reducible rfl
      try simp only [Act.put, List.setIfInBounds_toArray, List.set_cons_zero, List.set_cons_succ]
      refine wpAnyH_one (i := 9) rfl (by kernel_rfl) (fun K hK => ?_)
      go_simp
      refine (numE s3 X hX hy3 _).mono ?_
      rintro e _ ⟨rfl, rfl⟩
      refine hK.out _ _ trivial (fun hHeld => ?_)
      clear hK K
      try simp only [Act.put, List.setIfInBounds_toArray, List.set_cons_zero, List.set_cons_succ]
      refine wpAnyH_takeD (i := 10) (v := ?_) rfl (by kernel_rfl) (by kernel_rfl) (by kernel_rfl) (fun _ _ _ h => h) (Or.inl ⟨by rfl, ?_⟩) hHeld ?_
      rotate_left
      · rintro w hSw
        go_simp
        try with_reducible rfl
      try simp only [Act.put, List.setIfInBounds_toArray, List.set_cons_zero, List.set_cons_succ]
      refine wpAnyH_takeD (i := 11) (v := ?_) rfl (by kernel_rfl) (by kernel_rfl) (by kernel_rfl) (fun _ _ _ h => h) (Or.inl ⟨by rfl, ?_⟩) hHeld ?_
      rotate_left
      · rintro w hSw
        go_simp
        try with_reducible rfl
      try simp only [Act.put, List.setIfInBounds_toArray, List.set_cons_zero, List.set_cons_succ]
      refine wpAnyH_one (i := 13) rfl (by kernel_rfl) (fun K hK => ?_)
      go_simp
      refine hK.out _ _ trivial (fun hHeld => ?_)
      clear hK K
      try simp only [Act.put, List.setIfInBounds_toArray, List.set_cons_zero, List.set_cons_succ]
      refine wpAnyH_done (by kernel_rfl) ?_ _
      refine NoPanic.normal ?_
      go_wp2_with fail
      go_meet
      case rel => exact ⟨rfl, by rw [HWQ.out, HWX.out]; rfl⟩
  case rest =>
    obtain ⟨rfl, rfl⟩ := hcut
    obtain ⟨w3, hw3⟩ : ∃ w3, w2.drew.alloc (.cells #[.int .i64 T, .int .u32 Q, .int .i64 ((X : Int) - 5000)] TRep) = w3 := ⟨_, rfl⟩
    have B3 : Blk w3 w2.heap.size [.int .i64 T, .int .u32 Q, .int .i64 ((X : Int) - 5000)] TRep := by rw [← hw3]; exact Blk.new w2.drew _ _
    have B2 : Blk w3 w.heap.size [.int .i64 0, .int .u32 0, .int .i64 0] TRep := by rw [← hw3]; exact HB2.out.alloc _
    have q3 : Below w.heap.size w w3 := by rw [← hw3]; exact (Q2.out.drew).alloc (Nat.le_trans Q2.out.size (Nat.le_refl _)) _
    rw [hw3]
    clear hw3 HB2 Q2
    have d0 := B3.cell 0 rfl
    have d1 := B3.cell 1 rfl
    have d2 := B3.cell 2 rfl
    have HB3 := Lib.hid B3
    have HB2 := Lib.hid B2
    have Q3 := Lib.hid q3
    clear B3 B2 q3
    go_wp2_with fail
    refine (check_is T Q ((X : Int) - 5000) _).mono ?_
    rintro e w4 ⟨rfl, b4⟩
    have B4 := HB2.out.below b4 HB2.out.lt
    have D4 := HB3.out.below b4 HB3.out.lt
    have c0 := B4.cell 0 rfl
    have c1 := B4.cell 1 rfl
    have c2 := B4.cell 2 rfl
    have f0 := B4.free 0
    have f1 := B4.free 1
    have f2 := B4.free 2
    have d0 := D4.cell 0 rfl
    have d1 := D4.cell 1 rfl
    have d2 := D4.cell 2 rfl
    have g0 := set_three w4 w.heap.size _ _ _ c0 c1 c2
    have g00 := g0.1
    have g01 := g0.2.1
    have g02 := g0.2.2
    have Q4 : Hid (Below w.heap.size w w4) := Lib.hid (Q3.out.trans (b4.mono Q3.out.size))
    clear B4 D4 b4 g0
    generalize hE : repE T Q ((X : Int) - 5000) = E
    have HE := Lib.hid hE
    clear hE
    by_cases he : E = 0
    · subst he
      go_wp2_with fail
      refine bodyPost_ret (by simp [results, Try.results28, go_sem, g00, g01, g02]; try rfl) rfl ?_
      exact ⟨by rw [decV, HE.out, if_pos rfl], (((Q4.out.setCell (Nat.le_refl _) _).setCell (Nat.le_refl _) _).setCell (Nat.le_refl _) _)⟩
    · go_wp2_with fail
      refine bodyPost_ret (by simp [results, Try.results28, go_sem, g00, g01, g02]; try rfl) rfl ?_
      exact ⟨by rw [decV, HE.out, if_neg he], (((Q4.out.setCell (Nat.le_refl _) _).setCell (Nat.le_refl _) _).setCell (Nat.le_refl _) _)⟩

end Go.Proofs.Ytljdkaajlmcpkaa
