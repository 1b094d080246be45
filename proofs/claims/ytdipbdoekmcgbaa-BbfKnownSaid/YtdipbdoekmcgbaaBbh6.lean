/-
  aerialref13: number, Decode by contract.
-/
import Derived.Test.YtdipbdoekmcgbaaBbh5
namespace Go.Proofs.Ytdipbdoekmcgbaa
open Go.RowKit

set_option maxRecDepth 100000 in
set_option maxHeartbeats 400000 in
theorem number2_is (s : ByteArray) (a k : Nat) (h : a + 1 < s.size) (hs : s.size ≤ 100) (hk : Hid (numAtL s a 2 = k)) (w : World) : Calls Try.prog 34 #[.string s, .int .i64 a] w fun e w' => e = .returned (.int .i64 k) ∧ w' = w.drew := by
  obtain ⟨x, hx⟩ : ∃ x, (s[a]'(by omega)).toNat = x := ⟨_, rfl⟩
  obtain ⟨y, hy⟩ : ∃ y, (s[a + 1]'(by omega)).toNat = y := ⟨_, rfl⟩
  have hx2 : x < 256 := by rw [← hx]; exact (s[a]'(by omega)).toNat_lt
  have hy2 : y < 256 := by rw [← hy]; exact (s[a + 1]'(by omega)).toNat_lt
  have HV : Hid ((x : Int) * 256 + y = k) := Lib.hid (by
    have h1 := drop_take_snoc s a 0 (by omega)
    have h2 := drop_take_snoc s a 1 h
    have e : numAtL s a 2 = x * 256 + y := by
      show numL _ = _
      rw [h2, h1]
      simp [numL, hx, hy]
    rw [← hk.out, e]
    push_cast
    rfl)
  have i1 : (a : Int) < s.size := by omega
  have i2 : (a : Int) + 1 < s.size := by omega
  have i3 : a < s.size := by omega
  go_enter Try.func34, Try.ntmps34
  go_upto_region 1 with fail
  go_region
  go_wp2_with fail
  go_returns
  exact ⟨by rw [← HV.out]; rfl, rfl⟩

theorem head_newR (w : World) : ∃ w1, w.alloc (Obj.cells #[Value.int IntKind.i64 0, Value.int IntKind.i64 0, Value.int IntKind.i64 0, Value.int IntKind.i64 0, Value.int IntKind.i64 0] THead) = w1 ∧ Hid (Blk w1 w.heap.size (headC 0 0 0 0 0) THead) ∧ Hid (Below w.heap.size w w1) :=
  ⟨_, rfl, Lib.hid (Blk.new w (headC 0 0 0 0 0) THead), Lib.hid ((Below.refl _ _).alloc (Nat.le_refl _) _)⟩

set_option maxRecDepth 100000 in
set_option maxHeartbeats 400000 in
theorem rdecode_form (s : ByteArray) (h : s.size ≠ 10) (w : World) : Calls Try.prog 18 #[.string s] w fun e w' => e = .returned (.tuple #[headV 0 0 0 0 0, .int .i64 4]) ∧ Below w.heap.size w w' := by
  have h' : ¬ ((s.size : Int) = 10) := by omega
  go_enter Try.func18, Try.ntmps18
  go_wp2
  go_returns
  exact ⟨rfl, (Below.refl _ _).alloc (Nat.le_refl _) _⟩

set_option maxRecDepth 100000 in
set_option maxHeartbeats 400000 in
theorem rdecode_sum (s : ByteArray) (c d : Nat) (hs : s.size = 10) (hc : Hid (crcL (s.extract 0 9).data.toList = c)) (hd : s[9].toNat = d) (h : c ≠ d) (w : World) : Calls Try.prog 18 #[.string s] w fun e w' => e = .returned (.tuple #[headV 0 0 0 0 0, .int .i64 10]) ∧ Below w.heap.size w w' := by
  have h' : ¬ ((c : Int) = d) := by omega
  have h8 : (s.size : Int) = 10 := by omega
  have h7 : (9 : Int) < s.size := by omega
  have h77 : 9 < s.size := by omega
  have hx : (s.extract 0 9).size ≤ maxLen := by simp [maxLen]; omega
  obtain ⟨w1, hw1, B1, q1⟩ := head_newR w
  go_enter Try.func18, Try.ntmps18
  go_upto_region 3 with fail
  clear hw1
  have hne : Nonempty (WIn (Below w1.heap.size w1)) := ⟨⟨w1, Below.refl _ _⟩⟩
  refine wp_region_inv (Below w1.heap.size w1) (by kernel_rfl) (by kernel_rfl) (Below.refl _ _).drew ?_
  repeat (go_big_quiet_step ((go_at_call 31; exact quiet_call _ (refE _ c hc hx _))))
  refine wpQuiet_nil ?_
  intro w2 q2
  have B2 := B1.out.below q2 B1.out.lt
  have c0 := B2.cell 0 rfl
  have c1 := B2.cell 1 rfl
  have c2 := B2.cell 2 rfl
  have c3 := B2.cell 3 rfl
  have c4 := B2.cell 4 rfl
  have f0 := B2.free 0
  have f1 := B2.free 1
  have f2 := B2.free 2
  have f3 := B2.free 3
  have f4 := B2.free 4
  have Q2 : Hid (Below w.heap.size w w2) := Lib.hid (q1.out.trans (q2.mono q1.out.size))
  obtain ⟨g00, g01, g02, g03, g04⟩ := set_five w2 w.heap.size _ _ _ _ _ c0 c1 c2 c3 c4
  clear B2 q2 hne
  go_wp2_with fail
  refine bodyPost_ret (by simp [results, Try.results18, go_sem, g00, g01, g02, g03, g04]; try rfl) rfl ?_
  exact ⟨rfl, below_five Q2.out _ (Nat.le_refl _) _ _ _ _ _⟩

set_option maxRecDepth 100000 in
set_option maxHeartbeats 1600000 in
theorem rdecode_any (s : ByteArray) (k a b c d e : Nat) (hs : s.size = 10) (hc : Hid (crcL (s.extract 0 9).data.toList = k)) (h : s[9].toNat = k)
    (ha : Hid (numAtL s 0 2 = a)) (hb : Hid (numAtL s 2 2 = b)) (hcc : Hid (numAtL s 4 2 = c)) (hd : s[6].toNat = d) (he : Hid (numAtL s 7 2 = e)) (w : World) :
    Calls Try.prog 18 #[.string s] w fun r w' => r = .returned (.tuple #[hdecV a b c d e, .int .i64 (headE a b c d e)]) ∧ Below w.heap.size w w' := by
  have h8 : (s.size : Int) = 10 := by omega
  have h7 : (9 : Int) < s.size := by omega
  have h77 : 9 < s.size := by omega
  have h6 : (6 : Int) < s.size := by omega
  have h66 : 6 < s.size := by omega
  have hx : (s.extract 0 9).size ≤ maxLen := by simp [maxLen]; omega
  have n0 := fun w => number2_is s 0 a (by omega) (by omega) ha w
  have n2 := fun w => number2_is s 2 b (by omega) (by omega) hb w
  have n4 := fun w => number2_is s 4 c (by omega) (by omega) hcc w
  have n7 := fun w => number2_is s 7 e (by omega) (by omega) he w
  have N0 := Lib.hid n0
  have N2 := Lib.hid n2
  have N4 := Lib.hid n4
  have N7 := Lib.hid n7
  clear n0 n2 n4 n7
  obtain ⟨w1, hw1, B1, q1⟩ := head_newR w
  go_enter Try.func18, Try.ntmps18
  go_upto_region 3 with fail
  clear hw1
  have hne : Nonempty (WIn (Below w1.heap.size w1)) := ⟨⟨w1, Below.refl _ _⟩⟩
  refine wp_region_inv (Below w1.heap.size w1) (by kernel_rfl) (by kernel_rfl) (Below.refl _ _).drew ?_
  repeat (go_big_quiet_step ((go_at_call 31; exact quiet_call _ (refE _ k hc hx _))))
  refine wpQuiet_nil ?_
  intro w2 q2
  have B2 := Lib.hid (B1.out.below q2 B1.out.lt)
  have Q2 : Hid (Below w.heap.size w w2) := Lib.hid (q1.out.trans (q2.mono q1.out.size))
  clear q2 B1 q1 hne
  go_upto_region 5 with fail
  have HWD : Hid (IntKind.i64.wrap (d : Int) = d) := Lib.hid (by rw [IntKind.wrap_i64]; have := (s[6]'h66).toNat_lt; omega)
  go_cut [4] (fun p wx => p = .pointer (some ⟨w2.heap.size, 0, none⟩) ∧ wx = (w2.alloc (.cells #[.int .i64 a, .int .i64 b, .int .i64 c, .int .i64 d, .int .i64 e] THead)).drew.drew.drew.drew.drew)
  case first =>
    refine wp_region_noPanic ?_
    refine wp_region_held_drew (S := (fun _ => True)) (by kernel_rfl) (trivial) (fun hHeld => ?_)
    refine wpAnyH_takeD (i := 0) (v := ?_) rfl (by kernel_rfl) (by kernel_rfl) (by kernel_rfl) (fun _ _ _ h => h) (Or.inl ⟨by rfl, ?_⟩) hHeld ?_
    rotate_left
    · rintro w hSw
      go_simp
      try with_reducible rfl
    try simp only [Act.put, List.setIfInBounds_toArray, List.set_cons_zero, List.set_cons_succ]
    refine wpAnyH_takeD (i := 2) (v := ?_) rfl (by kernel_rfl) (by kernel_rfl) (by kernel_rfl) (fun _ _ _ h => h) (Or.inl ⟨by rfl, ?_⟩) hHeld ?_
    rotate_left
    · rintro w hSw
      go_simp
      try with_reducible rfl
    try simp only [Act.put, List.setIfInBounds_toArray, List.set_cons_zero, List.set_cons_succ]
    refine wpAnyH_takeD (i := 4) (v := ?_) rfl (by kernel_rfl) (by kernel_rfl) (by kernel_rfl) (fun _ _ _ h => h) (Or.inl ⟨by rfl, ?_⟩) hHeld ?_
    rotate_left
    · rintro w hSw
      go_simp
      try with_reducible rfl
    try simp only [Act.put, List.setIfInBounds_toArray, List.set_cons_zero, List.set_cons_succ]
    refine wpAnyH_takeD (i := 6) (v := ?_) rfl (by kernel_rfl) (by kernel_rfl) (by kernel_rfl) (fun _ _ _ h => h) (Or.inl ⟨by rfl, ?_⟩) hHeld ?_
    rotate_left
    · rintro w hSw
      go_simp
      try with_reducible rfl
    try simp only [Act.put, List.setIfInBounds_toArray, List.set_cons_zero, List.set_cons_succ]
    refine wpAnyH_takeD (i := 7) (v := ?_) rfl (by kernel_rfl) (by kernel_rfl) (by kernel_rfl) (fun _ _ _ h => h) (Or.inl ⟨by rfl, ?_⟩) hHeld ?_
    rotate_left
    · rintro w hSw
      go_simp
      try with_reducible rfl
    try simp only [Act.put, List.setIfInBounds_toArray, List.set_cons_zero, List.set_cons_succ]
    refine wpAnyH_takeD (i := 8) (v := ?_) rfl (by kernel_rfl) (by kernel_rfl) (by kernel_rfl) (fun _ _ _ h => h) (Or.inl ⟨by rfl, ?_⟩) hHeld ?_
    rotate_left
    · rintro w hSw
      go_simp
      try with_reducible rfl
    try simp only [Act.put, List.setIfInBounds_toArray, List.set_cons_zero, List.set_cons_succ]
    refine wpAnyH_takeD (i := 9) (v := ?_) rfl (by kernel_rfl) (by kernel_rfl) (by kernel_rfl) (fun _ _ _ h => h) (Or.inl ⟨by rfl, ?_⟩) hHeld ?_
    rotate_left
    · rintro w hSw
      go_simp
      try with_reducible rfl
    try simp only [Act.put, List.setIfInBounds_toArray, List.set_cons_zero, List.set_cons_succ]
    refine wpAnyH_two (i := 1) (j := 12) rfl rfl (by kernel_rfl) (fun K hK => ?_) (fun K hK => ?_)
    · go_simp
      refine (N0.out _).mono ?_
      rintro r w6 ⟨rfl, rfl⟩
      refine hK.out _ _ trivial (fun hHeld => ?_)
      clear hK K
      try simp only [Act.put, List.setIfInBounds_toArray, List.set_cons_zero, List.set_cons_succ]
      refine wpAnyH_two (i := 3) (j := 12) rfl rfl (by kernel_rfl) (fun K hK => ?_) (fun K hK => ?_)
      · go_simp
        refine (N2.out _).mono ?_
        rintro r w6 ⟨rfl, rfl⟩
        refine hK.out _ _ trivial (fun hHeld => ?_)
        clear hK K
        try simp only [Act.put, List.setIfInBounds_toArray, List.set_cons_zero, List.set_cons_succ]
        refine wpAnyH_two (i := 5) (j := 12) rfl rfl (by kernel_rfl) (fun K hK => ?_) (fun K hK => ?_)
        · go_simp
          refine (N4.out _).mono ?_
          rintro r w6 ⟨rfl, rfl⟩
          refine hK.out _ _ trivial (fun hHeld => ?_)
          clear hK K
          try simp only [Act.put, List.setIfInBounds_toArray, List.set_cons_zero, List.set_cons_succ]
          refine wpAnyH_two (i := 10) (j := 12) rfl rfl (by kernel_rfl) (fun K hK => ?_) (fun K hK => ?_)
          · go_simp
            refine (N7.out _).mono ?_
            rintro r w6 ⟨rfl, rfl⟩
            refine hK.out _ _ trivial (fun hHeld => ?_)
            clear hK K
            try simp only [Act.put, List.setIfInBounds_toArray, List.set_cons_zero, List.set_cons_succ]
            refine wpAnyH_takeD (i := 11) (v := ?_) rfl (by kernel_rfl) (by kernel_rfl) (by kernel_rfl) (fun _ _ _ h => h) (Or.inl ⟨by rfl, ?_⟩) hHeld ?_
            rotate_left
            · rintro w hSw
              go_simp
              try with_reducible rfl
            try simp only [Act.put, List.setIfInBounds_toArray, List.set_cons_zero, List.set_cons_succ]
            refine wpAnyH_one (i := 12) rfl (by kernel_rfl) (fun K hK => ?_)
            go_simp
            refine hK.out _ _ trivial (fun hHeld => ?_)
            clear hK K
            try simp only [Act.put, List.setIfInBounds_toArray, List.set_cons_zero, List.set_cons_succ]
            refine wpAnyH_one (i := 13) rfl (by kernel_rfl) (fun K hK => ?_)
            go_simp
            refine hK.out _ _ trivial (fun hHeld => ?_)
            clear hK K
            try simp only [Act.put, List.setIfInBounds_toArray, List.set_cons_zero, List.set_cons_succ]
            refine wpAnyH_done (by kernel_rfl) ?_ _
            refine NoPanic.normal ?_
            go_wp2_with fail
            go_meet
            case rel => exact ⟨rfl, by rw [HWD.out]⟩
          · go_simp
            refine hK.out _ _ trivial (fun hHeld => ?_)
            clear hK K
            try simp only [Act.put, List.setIfInBounds_toArray, List.set_cons_zero, List.set_cons_succ]
            refine wpAnyH_one (i := 10) rfl (by kernel_rfl) (fun K hK => ?_)
            go_simp
            refine (N7.out _).mono ?_
            rintro r w6 ⟨rfl, rfl⟩
            refine hK.out _ _ trivial (fun hHeld => ?_)
            clear hK K
            try simp only [Act.put, List.setIfInBounds_toArray, List.set_cons_zero, List.set_cons_succ]
            refine wpAnyH_takeD (i := 11) (v := ?_) rfl (by kernel_rfl) (by kernel_rfl) (by kernel_rfl) (fun _ _ _ h => h) (Or.inl ⟨by rfl, ?_⟩) hHeld ?_
            rotate_left
            · rintro w hSw
              go_simp
              try with_reducible rfl
            try simp only [Act.put, List.setIfInBounds_toArray, List.set_cons_zero, List.set_cons_succ]
            refine wpAnyH_one (i := 13) rfl (by kernel_rfl) (fun K hK => ?_)
            go_simp
            refine hK.out _ _ trivial (fun hHeld => ?_)
            clear hK K
            try simp only [Act.put, List.setIfInBounds_toArray, List.set_cons_zero, List.set_cons_succ]
            refine wpAnyH_done (by kernel_rfl) ?_ _
            refine NoPanic.normal ?_
            go_wp2_with fail
            go_meet
            case rel => exact ⟨rfl, by rw [HWD.out]⟩
        · go_simp
          refine hK.out _ _ trivial (fun hHeld => ?_)
          clear hK K
          try simp only [Act.put, List.setIfInBounds_toArray, List.set_cons_zero, List.set_cons_succ]
          refine wpAnyH_one (i := 5) rfl (by kernel_rfl) (fun K hK => ?_)
          go_simp
          refine (N4.out _).mono ?_
          rintro r w6 ⟨rfl, rfl⟩
          refine hK.out _ _ trivial (fun hHeld => ?_)
          clear hK K
          try simp only [Act.put, List.setIfInBounds_toArray, List.set_cons_zero, List.set_cons_succ]
          refine wpAnyH_one (i := 10) rfl (by kernel_rfl) (fun K hK => ?_)
          go_simp
          refine (N7.out _).mono ?_
          rintro r w6 ⟨rfl, rfl⟩
          refine hK.out _ _ trivial (fun hHeld => ?_)
          clear hK K
          try simp only [Act.put, List.setIfInBounds_toArray, List.set_cons_zero, List.set_cons_succ]
          refine wpAnyH_takeD (i := 11) (v := ?_) rfl (by kernel_rfl) (by kernel_rfl) (by kernel_rfl) (fun _ _ _ h => h) (Or.inl ⟨by rfl, ?_⟩) hHeld ?_
          rotate_left
          · rintro w hSw
            go_simp
            try with_reducible rfl
          try simp only [Act.put, List.setIfInBounds_toArray, List.set_cons_zero, List.set_cons_succ]
          refine wpAnyH_one (i := 13) rfl (by kernel_rfl) (fun K hK => ?_)
          go_simp
          refine hK.out _ _ trivial (fun hHeld => ?_)
          clear hK K
          try simp only [Act.put, List.setIfInBounds_toArray, List.set_cons_zero, List.set_cons_succ]
          refine wpAnyH_done (by kernel_rfl) ?_ _
          refine NoPanic.normal ?_
          go_wp2_with fail
          go_meet
          case rel => exact ⟨rfl, by rw [HWD.out]⟩
      · go_simp
        refine hK.out _ _ trivial (fun hHeld => ?_)
        clear hK K
        try simp only [Act.put, List.setIfInBounds_toArray, List.set_cons_zero, List.set_cons_succ]
        refine wpAnyH_one (i := 3) rfl (by kernel_rfl) (fun K hK => ?_)
        go_simp
        refine (N2.out _).mono ?_
        rintro r w6 ⟨rfl, rfl⟩
        refine hK.out _ _ trivial (fun hHeld => ?_)
        clear hK K
        try simp only [Act.put, List.setIfInBounds_toArray, List.set_cons_zero, List.set_cons_succ]
        refine wpAnyH_one (i := 5) rfl (by kernel_rfl) (fun K hK => ?_)
        go_simp
        refine (N4.out _).mono ?_
        rintro r w6 ⟨rfl, rfl⟩
        refine hK.out _ _ trivial (fun hHeld => ?_)
        clear hK K
        try simp only [Act.put, List.setIfInBounds_toArray, List.set_cons_zero, List.set_cons_succ]
        refine wpAnyH_one (i := 10) rfl (by kernel_rfl) (fun K hK => ?_)
        go_simp
        refine (N7.out _).mono ?_
        rintro r w6 ⟨rfl, rfl⟩
        refine hK.out _ _ trivial (fun hHeld => ?_)
        clear hK K
        try simp only [Act.put, List.setIfInBounds_toArray, List.set_cons_zero, List.set_cons_succ]
        refine wpAnyH_takeD (i := 11) (v := ?_) rfl (by kernel_rfl) (by kernel_rfl) (by kernel_rfl) (fun _ _ _ h => h) (Or.inl ⟨by rfl, ?_⟩) hHeld ?_
        rotate_left
        · rintro w hSw
          go_simp
          try with_reducible rfl
        try simp only [Act.put, List.setIfInBounds_toArray, List.set_cons_zero, List.set_cons_succ]
        refine wpAnyH_one (i := 13) rfl (by kernel_rfl) (fun K hK => ?_)
        go_simp
        refine hK.out _ _ trivial (fun hHeld => ?_)
        clear hK K
        try simp only [Act.put, List.setIfInBounds_toArray, List.set_cons_zero, List.set_cons_succ]
        refine wpAnyH_done (by kernel_rfl) ?_ _
        refine NoPanic.normal ?_
        go_wp2_with fail
        go_meet
        case rel => exact ⟨rfl, by rw [HWD.out]⟩
    · go_simp
      refine hK.out _ _ trivial (fun hHeld => ?_)
      clear hK K
      try simp only [Act.put, List.setIfInBounds_toArray, List.set_cons_zero, List.set_cons_succ]
      refine wpAnyH_one (i := 1) rfl (by kernel_rfl) (fun K hK => ?_)
      go_simp
      refine (N0.out _).mono ?_
      rintro r w6 ⟨rfl, rfl⟩
      refine hK.out _ _ trivial (fun hHeld => ?_)
      clear hK K
      try simp only [Act.put, List.setIfInBounds_toArray, List.set_cons_zero, List.set_cons_succ]
      refine wpAnyH_one (i := 3) rfl (by kernel_rfl) (fun K hK => ?_)
      go_simp
      refine (N2.out _).mono ?_
      rintro r w6 ⟨rfl, rfl⟩
      refine hK.out _ _ trivial (fun hHeld => ?_)
      clear hK K
      try simp only [Act.put, List.setIfInBounds_toArray, List.set_cons_zero, List.set_cons_succ]
      refine wpAnyH_one (i := 5) rfl (by kernel_rfl) (fun K hK => ?_)
      go_simp
      refine (N4.out _).mono ?_
      rintro r w6 ⟨rfl, rfl⟩
      refine hK.out _ _ trivial (fun hHeld => ?_)
      clear hK K
      try simp only [Act.put, List.setIfInBounds_toArray, List.set_cons_zero, List.set_cons_succ]
      refine wpAnyH_one (i := 10) rfl (by kernel_rfl) (fun K hK => ?_)
      go_simp
      refine (N7.out _).mono ?_
      rintro r w6 ⟨rfl, rfl⟩
      refine hK.out _ _ trivial (fun hHeld => ?_)
      clear hK K
      try simp only [Act.put, List.setIfInBounds_toArray, List.set_cons_zero, List.set_cons_succ]
      refine wpAnyH_takeD (i := 11) (v := ?_) rfl (by kernel_rfl) (by kernel_rfl) (by kernel_rfl) (fun _ _ _ h => h) (Or.inl ⟨by rfl, ?_⟩) hHeld ?_
      rotate_left
      · rintro w hSw
        go_simp
        try with_reducible rfl
      try simp only [Act.put, List.setIfInBounds_toArray, List.set_cons_zero, List.set_cons_succ]
      refine wpAnyH_one (i := 13) rfl (by kernel_rfl) (fun K hK => ?_)
      go_simp
      refine hK.out _ _ trivial (fun hHeld => ?_)
      clear hK K
      try simp only [Act.put, List.setIfInBounds_toArray, List.set_cons_zero, List.set_cons_succ]
      refine wpAnyH_done (by kernel_rfl) ?_ _
      refine NoPanic.normal ?_
      go_wp2_with fail
      go_meet
      case rel => exact ⟨rfl, by rw [HWD.out]⟩
  case rest =>
    obtain ⟨rfl, rfl⟩ := hcut
    obtain ⟨w3, hw3⟩ : ∃ w3, (w2.alloc (.cells #[.int .i64 a, .int .i64 b, .int .i64 c, .int .i64 d, .int .i64 e] THead)).drew.drew.drew.drew.drew = w3 := ⟨_, rfl⟩
    have H3 : Hid (Blk w3 w2.heap.size (headC a b c d e) THead) := Lib.hid (by rw [← hw3]; exact Blk.new w2 (headC a b c d e) THead)
    have R3 : Hid (Blk w3 w.heap.size (headC 0 0 0 0 0) THead) := Lib.hid (by rw [← hw3]; exact B2.out.alloc _)
    have Q3 : Hid (Below w.heap.size w w3) := Lib.hid (by rw [← hw3]; exact (Q2.out.alloc Q2.out.size _).drew.drew.drew.drew.drew)
    rw [hw3]
    have d0 := H3.out.cell 0 rfl
    have d1 := H3.out.cell 1 rfl
    have d2 := H3.out.cell 2 rfl
    have d3 := H3.out.cell 3 rfl
    have d4 := H3.out.cell 4 rfl
    clear hw3 B2 Q2 N0 N2 N4 N7
    go_wp2_with fail
    refine (may_is a b c d e _).mono ?_
    rintro r w9 ⟨rfl, q9⟩
    have R9 := R3.out.below q9 R3.out.lt
    have H9 := H3.out.below q9 H3.out.lt
    have d0 := H9.cell 0 rfl
    have d1 := H9.cell 1 rfl
    have d2 := H9.cell 2 rfl
    have d3 := H9.cell 3 rfl
    have d4 := H9.cell 4 rfl
    have c0 := R9.cell 0 rfl
    have c1 := R9.cell 1 rfl
    have c2 := R9.cell 2 rfl
    have c3 := R9.cell 3 rfl
    have c4 := R9.cell 4 rfl
    have f0 := R9.free 0
    have f1 := R9.free 1
    have f2 := R9.free 2
    have f3 := R9.free 3
    have f4 := R9.free 4
    have Q9 : Hid (Below w.heap.size w w9) := Lib.hid (Q3.out.trans (q9.mono Q3.out.size))
    obtain ⟨g00, g01, g02, g03, g04⟩ := set_five w9 w.heap.size _ _ _ _ _ c0 c1 c2 c3 c4
    clear R9 H9 q9 Q3 H3 R3
    cases hm : mayB a 65535 b 65535 c 58112 d 255 e 65535 with
    | true =>
      have HE : Hid (headE a b c d e = 0) := Lib.hid (by unfold headE; rw [if_pos hm])
      go_wp2_with fail
      refine bodyPost_ret (by simp [results, Try.results18, go_sem, g00, g01, g02, g03, g04]; try rfl) rfl ?_
      exact ⟨by rw [hdecV, HE.out, if_pos rfl], below_five Q9.out _ (Nat.le_refl _) _ _ _ _ _⟩
    | false =>
      have HE : Hid (headE a b c d e = 2) := Lib.hid (by unfold headE; rw [hm]; rfl)
      go_wp2_with fail
      refine bodyPost_ret (by simp [results, Try.results18, go_sem, g00, g01, g02, g03, g04]; try rfl) rfl ?_
      exact ⟨by rw [hdecV, HE.out, if_neg (by decide)], below_five Q9.out _ (Nat.le_refl _) _ _ _ _ _⟩

theorem rdecode_spec (s : ByteArray) (w : World) : Calls Try.prog 18 #[.string s] w fun r w' => r = .returned (.tuple #[(hdecode s).1, .int .i64 (hdecode s).2]) ∧ Below w.heap.size w w' := by
  unfold hdecode
  by_cases h8 : s.size = 10
  · rw [if_neg (by simpa using h8)]
    have e7 : (s.data.toList.getD 9 0).toNat = (s[9]'(by omega)).toNat := by
      rw [List.getD_eq_getElem?_getD, List.getElem?_eq_getElem (by rw [len_bytes]; omega)]
      rfl
    by_cases hc : crcL (s.extract 0 9).data.toList = (s.data.toList.getD 9 0).toNat
    · rw [if_neg (fun h => h hc)]
      have e6 : (s[6]'(by omega)).toNat = numAtL s 6 1 := by
        show _ = numL _
        rw [drop_take_snoc s 6 0 (by omega)]
        simp [numL]
      exact rdecode_any s (crcL (s.extract 0 9).data.toList) (numAtL s 0 2) (numAtL s 2 2) (numAtL s 4 2) (numAtL s 6 1) (numAtL s 7 2) h8 (Lib.hid rfl) (by rw [hc, e7]) (Lib.hid rfl) (Lib.hid rfl) (Lib.hid rfl) e6 (Lib.hid rfl) w
    · rw [if_pos hc]
      exact rdecode_sum s (crcL (s.extract 0 9).data.toList) (s.data.toList.getD 9 0).toNat h8 (Lib.hid rfl) e7.symm hc w
  · rw [if_pos h8]
    exact rdecode_form s h8 w
theorem rdecE (s : ByteArray) (v : Value) (k : Int) (h : Hid (hdecode s = (v, k))) (w : World) : Calls Try.prog 18 #[.string s] w fun r w' => r = .returned (.tuple #[v, .int .i64 k]) ∧ Below w.heap.size w w' := by
  have := rdecode_spec s w
  rw [h.out] at this
  exact this

end Go.Proofs.Ytdipbdoekmcgbaa
