/-
  aeriallaw18: what encoding gives; works.
-/
import Derived.Test.YtljdkaajlmcpkaaReport4
namespace Go.Proofs.Ytljdkaajlmcpkaa
open Go.RowKit

/-- The bytes of a report, and the error. -/
def encode (t q x : Int) : ByteArray × Int := if repE t q x = 0 then (repB t.toNat q.toNat (x + 5000).toNat, 0) else (⟨#[]⟩, repE t q x)
theorem repE_zero {t q x : Int} (h : repE t q x = 0) : 0 ≤ t ∧ t < 8 ∧ 0 < q ∧ -5000 ≤ x ∧ x ≤ 5000 := by
  unfold repE at h
  by_cases h1 : termE t = 0
  · rw [if_neg (by simpa using h1)] at h
    by_cases h2 : seqE q = 0
    · rw [if_neg (by simpa using h2)] at h
      unfold termE at h1
      unfold seqE at h2
      unfold esE at h
      split at h1
      · split at h2
        · split at h
          · omega
          · simp at h
        · simp at h2
      · simp at h1
    · rw [if_pos h2] at h
      exact absurd h h2
  · rw [if_pos h1] at h
    exact absurd h h1
theorem nat_form {t q x : Int} (h : repE t q x = 0) : ∃ T Q X : Nat, t = T ∧ q = Q ∧ x = (X : Int) - 5000 ∧ T < 8 ∧ 0 < Q ∧ X ≤ 10000 ∧ t.toNat = T ∧ q.toNat = Q ∧ (x + 5000).toNat = X := by
  obtain ⟨h1, h2, h3, h4, h5⟩ := repE_zero h
  exact ⟨t.toNat, q.toNat, (x + 5000).toNat, by omega, by omega, by omega, by omega, by omega, by omega, rfl, rfl, rfl⟩
theorem encode_spec (t q x : Int) (hq : q < 4294967296) (w : World) : Calls Try.prog 23 #[repV t q x] w fun e w' => e = .returned (.tuple #[.string (encode t q x).1, .int .i64 (encode t q x).2]) ∧ Below w.heap.size w w' := by
  unfold encode
  by_cases h : repE t q x = 0
  · rw [if_pos h]
    obtain ⟨T, Q, X, e1, e2, e3, l1, l2, l3, e4, e5, e6⟩ := nat_form h
    rw [e4, e5, e6, e1, e2, e3]
    exact encode_is T Q X l1 l2 (by omega) l3 w
  · rw [if_neg h]
    exact encode_no t q x h w
theorem refencode_spec (t q x : Int) (hq0 : 0 ≤ q) (hq : q < 4294967296) (w : World) : Calls Try.prog 24 #[repV t q x] w fun e w' => e = .returned (.tuple #[.string (encode t q x).1, .int .i64 (encode t q x).2]) ∧ Below w.heap.size w w' := by
  unfold encode
  by_cases h : repE t q x = 0
  · rw [if_pos h]
    obtain ⟨T, Q, X, e1, e2, e3, l1, l2, l3, e4, e5, e6⟩ := nat_form h
    rw [e4, e5, e6, e1, e2, e3]
    exact refencode_is T Q X l1 l2 (by omega) l3 w
  · rw [if_neg h]
    exact refencode_no t q x hq0 h w
theorem decode_form' (s : ByteArray) : ∃ t q x, (decode s).1 = repV t q x := by
  unfold decode
  split
  · exact ⟨0, 0, 0, rfl⟩
  · split
    · exact ⟨0, 0, 0, rfl⟩
    · unfold decV
      split
      · exact ⟨_, _, _, rfl⟩
      · exact ⟨0, 0, 0, rfl⟩
theorem encE (t q x : Int) (s : ByteArray) (k : Int) (h : encode t q x = (s, k)) (hq : q < 4294967296) (w : World) : Calls Try.prog 23 #[repV t q x] w fun e w' => e = .returned (.tuple #[.string s, .int .i64 k]) ∧ Below w.heap.size w w' := by
  have := encode_spec t q x hq w
  rw [h] at this
  exact this
theorem decE (s : ByteArray) (v : Value) (k : Int) (h : decode s = (v, k)) (w : World) : Calls Try.prog 28 #[.string s] w fun e w' => e = .returned (.tuple #[v, .int .i64 k]) ∧ Below w.heap.size w w' := by
  have := decode_is s w
  rw [h] at this
  exact this
theorem chkE (t q x k : Int) (h : repE t q x = k) (w : World) : Calls Try.prog 25 #[repV t q x] w fun e w' => e = .returned (.int .i64 k) ∧ Below w.heap.size w w' := by
  subst h
  exact check_is t q x w

/-- One byte, as a string, wherever it lies. -/
theorem conv_byte {w : World} {b n : Nat} {T : TypeId} (h : Blk w b [.int .u8 n] T) (c : Nat) : (convert 23 9 (.slice (some ⟨b, 0, none⟩) 1 c)).run Try.prog w = .ok (.string ⟨#[UInt8.ofNat n]⟩) w :=
  conv_nat w b [n] [] T h 1 c rfl
theorem rep_kept {W w : World} {b : Nat} (h : Blk W b [.int .i64 0, .int .u32 0, .int .i64 0] TRep) (k : Below W.heap.size W w) :
    w.cell? ⟨b, 0, none⟩ = some (.int .i64 0) ∧ w.cell? ⟨b, 1, none⟩ = some (.int .u32 0) ∧ w.cell? ⟨b, 2, none⟩ = some (.int .i64 0) ∧ w.frozen? ⟨b, 0, none⟩ = false ∧ w.frozen? ⟨b, 1, none⟩ = false ∧ w.frozen? ⟨b, 2, none⟩ = false := by
  have h' := h.below k h.lt
  exact ⟨h'.cell 0 rfl, h'.cell 1 rfl, h'.cell 2 rfl, h'.free 0, h'.free 1, h'.free 2⟩

theorem below_one {w w4 w5 : World} {o : Obj} (h : Below w.heap.size w w4) (k : Below (w4.alloc o).drew.heap.size (w4.alloc o).drew w5) : Below w.heap.size w w5 :=
  (h.alloc h.size o).drew.trans (k.mono (h.alloc h.size o).drew.size)
theorem below_two {w w4 w5 : World} {o o' : Obj} (h : Below w.heap.size w w4) (k : Below ((w4.alloc o).alloc o').drew.heap.size ((w4.alloc o).alloc o').drew w5) : Below w.heap.size w w5 :=
  ((h.alloc h.size o).alloc (h.alloc h.size o).size o').drew.trans (k.mono ((h.alloc h.size o).alloc (h.alloc h.size o).size o').drew.size)
theorem below_rep {w w5 : World} (h : Below w.heap.size w w5) (b : Nat) (hb : w.heap.size ≤ b) (x y z : Value) : Below w.heap.size w (((w5.setCell ⟨b, 0, none⟩ x).setCell ⟨b, 1, none⟩ y).setCell ⟨b, 2, none⟩ z) :=
  (((h.setCell hb _).setCell hb _).setCell hb _)
abbrev zeroObj : Obj := .cells #[.int .i64 0, .int .u32 0, .int .i64 0] TRep
theorem rep_early {v w : World} {o : Obj} (k : Below ((v.alloc zeroObj).alloc o).drew.heap.size ((v.alloc zeroObj).alloc o).drew w) :
    w.cell? ⟨v.heap.size, 0, none⟩ = some (.int .i64 0) ∧ w.cell? ⟨v.heap.size, 1, none⟩ = some (.int .u32 0) ∧ w.cell? ⟨v.heap.size, 2, none⟩ = some (.int .i64 0) ∧ w.frozen? ⟨v.heap.size, 0, none⟩ = false ∧ w.frozen? ⟨v.heap.size, 1, none⟩ = false ∧ w.frozen? ⟨v.heap.size, 2, none⟩ = false :=
  rep_kept ((Blk.new v [.int .i64 0, .int .u32 0, .int .i64 0] TRep).alloc o).drew k
theorem rep_late {v w : World} {o : Obj} (k : Below ((v.alloc o).alloc zeroObj).drew.heap.size ((v.alloc o).alloc zeroObj).drew w) :
    w.cell? ⟨v.heap.size + 1, 0, none⟩ = some (.int .i64 0) ∧ w.cell? ⟨v.heap.size + 1, 1, none⟩ = some (.int .u32 0) ∧ w.cell? ⟨v.heap.size + 1, 2, none⟩ = some (.int .i64 0) ∧ w.frozen? ⟨v.heap.size + 1, 0, none⟩ = false ∧ w.frozen? ⟨v.heap.size + 1, 1, none⟩ = false ∧ w.frozen? ⟨v.heap.size + 1, 2, none⟩ = false := by
  have := rep_kept (Blk.new (v.alloc o) [.int .i64 0, .int .u32 0, .int .i64 0] TRep).drew k
  rw [World.size_alloc] at this
  exact this

set_option maxRecDepth 100000 in
set_option maxHeartbeats 800000 in
theorem works18 (w : World) : Calls Try.prog 27 #[] w fun e w' => e = .returned (.bool true) ∧ Below w.heap.size w w' := by
  obtain ⟨S, hS⟩ : ∃ S : ByteArray, S = ⟨#[1, 0, 0, 0, 2, 0, 0, 71]⟩ := ⟨_, rfl⟩
  obtain ⟨S7, hS7⟩ : ∃ S : ByteArray, S = ⟨#[1, 0, 0, 0, 2, 0, 0]⟩ := ⟨_, rfl⟩
  have hsn : S.size = 8 := by rw [hS]; rfl
  have hsz : (S.size : Int) = 8 := by omega
  have hen : Hid (encode 1 2 (-5000) = (S, 0)) := Lib.hid (by rw [hS]; decide +kernel)
  have e7 : S.extract 0 7 = S7 := by rw [hS, hS7]; decide +kernel
  have i7 : (S[7]'(by omega)).toNat = 71 := by subst hS; rfl
  have h77 : 7 < S.size := by omega
  have h7 : (7 : Int) < S.size := by omega
  have h78 : (7 : Int) ≤ S.size := by omega
  have hc7 : Hid (crcL S7.data.toList = 71) := Lib.hid (by rw [hS7]; decide +kernel)
  have d1 : Hid (decode S7 = (repV 0 0 0, 4)) := Lib.hid (by rw [hS7]; rfl)
  have d3 : Hid (decode S = (repV 1 2 (-5000), 0)) := Lib.hid (by rw [hS]; rfl)
  obtain ⟨CB, hCB⟩ : ∃ S : ByteArray, S = ⟨#[UInt8.ofNat 67]⟩ := ⟨_, rfl⟩
  have d2 : Hid (decode (S7 ++ CB) = (repV 0 0 0, 10)) := Lib.hid (by rw [hS7, hCB]; rfl)
  have hcat : S7.size + CB.size = 8 := by rw [hS7, hCB]; rfl
  have hxor : bits BinOp.xor IntKind.u8 71 4 = 67 := by kernel_rfl
  have k1 : ∀ (v : World) (o : Obj), (convert 23 9 (.slice (some ⟨v.heap.size + 1, 0, none⟩) 1 1)).run Try.prog ((v.alloc o).alloc (.cells #[.int .u8 67] 5)).drew = .ok (.string CB) ((v.alloc o).alloc (.cells #[.int .u8 67] 5)).drew := fun v o => by
    have := conv_byte (w := ((v.alloc o).alloc (.cells #[.int .u8 ((67 : Nat) : Int)] 5)).drew) (Blk.new (v.alloc o) [.int .u8 ((67 : Nat) : Int)] _).drew 1
    rw [World.size_alloc, ← hCB] at this
    exact this
  have k2 : ∀ (v : World) (o : Obj), (convert 23 9 (.slice (some ⟨v.heap.size, 0, none⟩) 1 1)).run Try.prog ((v.alloc (.cells #[.int .u8 67] 5)).alloc o).drew = .ok (.string CB) ((v.alloc (.cells #[.int .u8 67] 5)).alloc o).drew := fun v o => by
    have := conv_byte (w := ((v.alloc (.cells #[.int .u8 ((67 : Nat) : Int)] 5)).alloc o).drew) ((Blk.new v [.int .u8 ((67 : Nat) : Int)] _).alloc o).drew 1
    rw [← hCB] at this
    exact this
  have k3 : ∀ (v : World), (convert 23 9 (.slice (some ⟨v.heap.size, 0, none⟩) 1 1)).run Try.prog (v.alloc (.cells #[.int .u8 67] 5)).drew = .ok (.string CB) (v.alloc (.cells #[.int .u8 67] 5)).drew := fun v => by
    have := conv_byte (w := (v.alloc (.cells #[.int .u8 ((67 : Nat) : Int)] 5)).drew) (Blk.new v [.int .u8 ((67 : Nat) : Int)] _).drew 1
    rw [← hCB] at this
    exact this
  have hs77 : S7.size ≤ maxLen := by rw [hS7]; decide
  have hlit : S7.toList = [1, 0, 0, 0, 2, 0, 0] := by rw [hS7]; decide +kernel
  have HS := Lib.hid hS
  clear hS hS7 hCB
  go_enter Try.func27, Try.ntmps27
  go_wp2_with fail
  refine (encE 1 2 (-5000) S 0 hen.out (by decide) _).mono ?_
  rintro e w1 ⟨rfl, b1⟩
  clear hen
  go_upto_region 2 with fail
  have hne : Nonempty (WIn (Below w1.heap.size w1)) := ⟨⟨w1, Below.refl _ _⟩⟩
  refine wp_region_inv (Below w1.heap.size w1) (by kernel_rfl) (by kernel_rfl) (Below.refl _ _).drew ?_
  repeat (go_big_quiet_step ((go_at_call 30; exact quiet_call _ (sumE S7 71 hc7 hs77 _))))
  refine wpQuiet_nil ?_
  intro w2 q2
  have b2 := Lib.hid (bthen b1 q2)
  clear hne b1 q2
  go_wp2_with fail
  refine (decE S7 _ 4 d1.out _).mono ?_
  rintro e w3 ⟨rfl, q3⟩
  have b3 : Hid (Below w.heap.size w w3) := Lib.hid (b2.out.trans (q3.mono b2.out.size))
  clear b2 q3
  go_upto_region 5 with fail
  generalize hw4 : w3.alloc _ = w4
  have b4 : Hid (Below w.heap.size w w4) := Lib.hid (by rw [← hw4]; exact b3.out.alloc b3.out.size _)
  clear hw4 b3
  go_cut [5, 6] (fun p g wx => g = .int .i64 10 ∧ Hid (Below w.heap.size w wx))
  case first =>
    refine wp_region_noPanic ?_
    refine wp_region_held_drew (S := (fun _ => True)) (by kernel_rfl) (trivial) (fun hHeld => ?_)
    refine wpAnyH_takeD (i := 0) (v := ?_) rfl (by kernel_rfl) (by kernel_rfl) (by kernel_rfl) (fun _ _ _ h => h) (Or.inl ⟨by rfl, ?_⟩) hHeld ?_
    rotate_left
    · rintro w hSw
      go_simp
      try with_reducible rfl
    try simp only [Act.put, List.setIfInBounds_toArray, List.set_cons_zero, List.set_cons_succ]
    refine wpAnyH_takeD (i := 1) (v := ?_) rfl (by kernel_rfl) (by kernel_rfl) (by kernel_rfl) (fun _ _ _ h => h) (Or.inl ⟨by rfl, ?_⟩) hHeld ?_
    rotate_left
    · rintro w hSw
      go_simp
      try with_reducible rfl
    try simp only [Act.put, List.setIfInBounds_toArray, List.set_cons_zero, List.set_cons_succ]
    refine wpAnyH_takeD (i := 2) (v := ?_) rfl (by kernel_rfl) (by kernel_rfl) (by kernel_rfl) (fun _ _ _ h => h) (Or.inl ⟨by rfl, ?_⟩) hHeld ?_
    rotate_left
    · rintro w hSw
      go_simp
      try with_reducible rfl
    try simp only [Act.put, List.setIfInBounds_toArray, List.set_cons_zero, List.set_cons_succ]
    refine wpAnyH_takeD (i := 3) (v := ?_) rfl (by kernel_rfl) (by kernel_rfl) (by kernel_rfl) (fun _ _ _ h => h) (Or.inl ⟨by rfl, ?_⟩) hHeld ?_
    rotate_left
    · rintro w hSw
      go_simp
      try with_reducible rfl
    try simp only [Act.put, List.setIfInBounds_toArray, List.set_cons_zero, List.set_cons_succ]
    refine wpAnyH_takeD (i := 4) (v := ?_) rfl (by kernel_rfl) (by kernel_rfl) (by kernel_rfl) (fun _ _ _ h => h) (Or.inl ⟨by rfl, ?_⟩) hHeld ?_
    rotate_left
    · rintro w hSw
      go_simp
      try with_reducible rfl
    try simp only [Act.put, List.setIfInBounds_toArray, List.set_cons_zero, List.set_cons_succ]
    refine wpAnyH_two (i := 5) (j := 12) rfl rfl (by kernel_rfl) (fun K hK => ?_) (fun K hK => ?_)
    · go_simp
      refine hK.out _ _ trivial (fun hHeld => ?_)
      clear hK K
      try simp only [Act.put, List.setIfInBounds_toArray, List.set_cons_zero, List.set_cons_succ]
      refine wpAnyH_two (i := 6) (j := 12) rfl rfl (by kernel_rfl) (fun K hK => ?_) (fun K hK => ?_)
      · go_simp
        refine hK.out _ _ trivial (fun hHeld => ?_)
        clear hK K
        try simp only [Act.put, List.setIfInBounds_toArray, List.set_cons_zero, List.set_cons_succ]
        refine wpAnyH_takeD (i := 7) (v := ?_) rfl (by kernel_rfl) (by kernel_rfl) (by kernel_rfl) (fun _ _ _ h => h) (Or.inl ⟨by rfl, ?_⟩) hHeld ?_
        rotate_left
        · rintro w hSw
          go_simp
          try with_reducible rfl
        try simp only [Act.put, List.setIfInBounds_toArray, List.set_cons_zero, List.set_cons_succ]
        refine wpAnyH_two (i := 8) (j := 12) rfl rfl (by kernel_rfl) (fun K hK => ?_) (fun K hK => ?_)
        · go_simp
          refine (decE _ _ 10 d2.out _).mono ?_
          rintro e w5 ⟨rfl, b5⟩
          refine hK.out _ _ trivial (fun hHeld => ?_)
          clear hK K
          try simp only [Act.put, List.setIfInBounds_toArray, List.set_cons_zero, List.set_cons_succ]
          refine wpAnyH_takeD (i := 9) (v := ?_) rfl (by kernel_rfl) (by kernel_rfl) (by kernel_rfl) (fun _ _ _ h => h) (Or.inl ⟨by rfl, ?_⟩) hHeld ?_
          rotate_left
          · rintro w hSw
            go_simp
            try with_reducible rfl
          try simp only [Act.put, List.setIfInBounds_toArray, List.set_cons_zero, List.set_cons_succ]
          refine wpAnyH_takeD (i := 10) (v := ?_) rfl (by kernel_rfl) (by kernel_rfl) (by kernel_rfl) (fun _ _ _ h => h) (Or.inl ⟨by rfl, ?_⟩) hHeld ?_
          rotate_left
          · rintro w hSw
            go_simp
            try with_reducible rfl
          try simp only [Act.put, List.setIfInBounds_toArray, List.set_cons_zero, List.set_cons_succ]
          refine wpAnyH_takeD (i := 11) (v := ?_) rfl (by kernel_rfl) (by kernel_rfl) (by kernel_rfl) (fun _ _ _ h => h) (Or.inl ⟨by rfl, ?_⟩) hHeld ?_
          rotate_left
          · rintro w hSw
            go_simp
            try with_reducible rfl
          try simp only [Act.put, List.setIfInBounds_toArray, List.set_cons_zero, List.set_cons_succ]
          refine wpAnyH_one (i := 12) rfl (by kernel_rfl) (fun K hK => ?_)
          go_simp
          refine hK.out _ _ trivial (fun hHeld => ?_)
          clear hK K
          try simp only [Act.put, List.setIfInBounds_toArray, List.set_cons_zero, List.set_cons_succ]
          refine wpAnyH_one (i := 13) rfl (by kernel_rfl) (fun K hK => ?_)
          go_simp
          refine hK.out _ _ trivial (fun hHeld => ?_)
          clear hK K
          try simp only [Act.put, List.setIfInBounds_toArray, List.set_cons_zero, List.set_cons_succ]
          refine wpAnyH_takeD (i := 14) (v := ?_) rfl (by kernel_rfl) (by kernel_rfl) (by kernel_rfl) (fun _ _ _ h => h) (Or.inl ⟨by rfl, ?_⟩) hHeld ?_
          rotate_left
          · rintro w hSw
            go_simp
            try with_reducible rfl
          try simp only [Act.put, List.setIfInBounds_toArray, List.set_cons_zero, List.set_cons_succ]
          refine wpAnyH_done (by kernel_rfl) ?_ _
          refine NoPanic.normal ?_
          have hsz4 := b4.out.size
          go_wp2_with fail
          go_meet
          case rel => first | exact ⟨rfl, Lib.hid ((below_one b4.out b5).alloc (below_one b4.out b5).size _)⟩ | exact ⟨rfl, Lib.hid (below_rep (below_two b4.out b5) _ (by omega) _ _ _)⟩
        · go_simp
          refine hK.out _ _ trivial (fun hHeld => ?_)
          clear hK K
          try simp only [Act.put, List.setIfInBounds_toArray, List.set_cons_zero, List.set_cons_succ]
          refine wpAnyH_one (i := 8) rfl (by kernel_rfl) (fun K hK => ?_)
          go_simp
          refine (decE _ _ 10 d2.out _).mono ?_
          rintro e w5 ⟨rfl, b5⟩
          first | (obtain ⟨c0, c1, c2, f0, f1, f2⟩ := rep_early b5) | (obtain ⟨c0, c1, c2, f0, f1, f2⟩ := rep_late b5)
          refine hK.out _ _ trivial (fun hHeld => ?_)
          clear hK K
          try simp only [Act.put, List.setIfInBounds_toArray, List.set_cons_zero, List.set_cons_succ]
          refine wpAnyH_takeD (i := 9) (v := ?_) rfl (by kernel_rfl) (by kernel_rfl) (by kernel_rfl) (fun _ _ _ h => h) (Or.inl ⟨by rfl, ?_⟩) hHeld ?_
          rotate_left
          · rintro w hSw
            go_simp
            try with_reducible rfl
          try simp only [Act.put, List.setIfInBounds_toArray, List.set_cons_zero, List.set_cons_succ]
          refine wpAnyH_takeD (i := 10) (v := ?_) rfl (by kernel_rfl) (by kernel_rfl) (by kernel_rfl) (fun _ _ _ h => h) (Or.inl ⟨by rfl, ?_⟩) hHeld ?_
          rotate_left
          · rintro w hSw
            go_simp
            try with_reducible rfl
          try simp only [Act.put, List.setIfInBounds_toArray, List.set_cons_zero, List.set_cons_succ]
          refine wpAnyH_takeD (i := 11) (v := ?_) rfl (by kernel_rfl) (by kernel_rfl) (by kernel_rfl) (fun _ _ _ h => h) (Or.inl ⟨by rfl, ?_⟩) hHeld ?_
          rotate_left
          · rintro w hSw
            go_simp
            try with_reducible rfl
          try simp only [Act.put, List.setIfInBounds_toArray, List.set_cons_zero, List.set_cons_succ]
          refine wpAnyH_one (i := 13) rfl (by kernel_rfl) (fun K hK => ?_)
          go_simp
          refine hK.out _ _ trivial (fun hHeld => ?_)
          clear hK K
          try simp only [Act.put, List.setIfInBounds_toArray, List.set_cons_zero, List.set_cons_succ]
          refine wpAnyH_takeD (i := 14) (v := ?_) rfl (by kernel_rfl) (by kernel_rfl) (by kernel_rfl) (fun _ _ _ h => h) (Or.inl ⟨by rfl, ?_⟩) hHeld ?_
          rotate_left
          · rintro w hSw
            go_simp
            try with_reducible rfl
          try simp only [Act.put, List.setIfInBounds_toArray, List.set_cons_zero, List.set_cons_succ]
          refine wpAnyH_done (by kernel_rfl) ?_ _
          refine NoPanic.normal ?_
          have hsz4 := b4.out.size
          go_wp2_with fail
          go_meet
          case rel => first | exact ⟨rfl, Lib.hid ((below_one b4.out b5).alloc (below_one b4.out b5).size _)⟩ | exact ⟨rfl, Lib.hid (below_rep (below_two b4.out b5) _ (by omega) _ _ _)⟩
      · go_simp
        refine hK.out _ _ trivial (fun hHeld => ?_)
        clear hK K
        try simp only [Act.put, List.setIfInBounds_toArray, List.set_cons_zero, List.set_cons_succ]
        refine wpAnyH_one (i := 6) rfl (by kernel_rfl) (fun K hK => ?_)
        go_simp
        refine hK.out _ _ trivial (fun hHeld => ?_)
        clear hK K
        try simp only [Act.put, List.setIfInBounds_toArray, List.set_cons_zero, List.set_cons_succ]
        refine wpAnyH_takeD (i := 7) (v := ?_) rfl (by kernel_rfl) (by kernel_rfl) (by kernel_rfl) (fun _ _ _ h => h) (Or.inl ⟨by rfl, ?_⟩) hHeld ?_
        rotate_left
        · rintro w hSw
          go_simp
          try with_reducible rfl
        try simp only [Act.put, List.setIfInBounds_toArray, List.set_cons_zero, List.set_cons_succ]
        refine wpAnyH_one (i := 8) rfl (by kernel_rfl) (fun K hK => ?_)
        go_simp
        refine (decE _ _ 10 d2.out _).mono ?_
        rintro e w5 ⟨rfl, b5⟩
        first | (obtain ⟨c0, c1, c2, f0, f1, f2⟩ := rep_early b5) | (obtain ⟨c0, c1, c2, f0, f1, f2⟩ := rep_late b5)
        refine hK.out _ _ trivial (fun hHeld => ?_)
        clear hK K
        try simp only [Act.put, List.setIfInBounds_toArray, List.set_cons_zero, List.set_cons_succ]
        refine wpAnyH_takeD (i := 9) (v := ?_) rfl (by kernel_rfl) (by kernel_rfl) (by kernel_rfl) (fun _ _ _ h => h) (Or.inl ⟨by rfl, ?_⟩) hHeld ?_
        rotate_left
        · rintro w hSw
          go_simp
          try with_reducible rfl
        try simp only [Act.put, List.setIfInBounds_toArray, List.set_cons_zero, List.set_cons_succ]
        refine wpAnyH_takeD (i := 10) (v := ?_) rfl (by kernel_rfl) (by kernel_rfl) (by kernel_rfl) (fun _ _ _ h => h) (Or.inl ⟨by rfl, ?_⟩) hHeld ?_
        rotate_left
        · rintro w hSw
          go_simp
          try with_reducible rfl
        try simp only [Act.put, List.setIfInBounds_toArray, List.set_cons_zero, List.set_cons_succ]
        refine wpAnyH_takeD (i := 11) (v := ?_) rfl (by kernel_rfl) (by kernel_rfl) (by kernel_rfl) (fun _ _ _ h => h) (Or.inl ⟨by rfl, ?_⟩) hHeld ?_
        rotate_left
        · rintro w hSw
          go_simp
          try with_reducible rfl
        try simp only [Act.put, List.setIfInBounds_toArray, List.set_cons_zero, List.set_cons_succ]
        refine wpAnyH_one (i := 13) rfl (by kernel_rfl) (fun K hK => ?_)
        go_simp
        refine hK.out _ _ trivial (fun hHeld => ?_)
        clear hK K
        try simp only [Act.put, List.setIfInBounds_toArray, List.set_cons_zero, List.set_cons_succ]
        refine wpAnyH_takeD (i := 14) (v := ?_) rfl (by kernel_rfl) (by kernel_rfl) (by kernel_rfl) (fun _ _ _ h => h) (Or.inl ⟨by rfl, ?_⟩) hHeld ?_
        rotate_left
        · rintro w hSw
          go_simp
          try with_reducible rfl
        try simp only [Act.put, List.setIfInBounds_toArray, List.set_cons_zero, List.set_cons_succ]
        refine wpAnyH_done (by kernel_rfl) ?_ _
        refine NoPanic.normal ?_
        have hsz4 := b4.out.size
        go_wp2_with fail
        go_meet
        case rel => first | exact ⟨rfl, Lib.hid ((below_one b4.out b5).alloc (below_one b4.out b5).size _)⟩ | exact ⟨rfl, Lib.hid (below_rep (below_two b4.out b5) _ (by omega) _ _ _)⟩
    · go_simp
      refine hK.out _ _ trivial (fun hHeld => ?_)
      clear hK K
      try simp only [Act.put, List.setIfInBounds_toArray, List.set_cons_zero, List.set_cons_succ]
      refine wpAnyH_one (i := 5) rfl (by kernel_rfl) (fun K hK => ?_)
      go_simp
      refine hK.out _ _ trivial (fun hHeld => ?_)
      clear hK K
      try simp only [Act.put, List.setIfInBounds_toArray, List.set_cons_zero, List.set_cons_succ]
      refine wpAnyH_one (i := 6) rfl (by kernel_rfl) (fun K hK => ?_)
      go_simp
      refine hK.out _ _ trivial (fun hHeld => ?_)
      clear hK K
      try simp only [Act.put, List.setIfInBounds_toArray, List.set_cons_zero, List.set_cons_succ]
      refine wpAnyH_takeD (i := 7) (v := ?_) rfl (by kernel_rfl) (by kernel_rfl) (by kernel_rfl) (fun _ _ _ h => h) (Or.inl ⟨by rfl, ?_⟩) hHeld ?_
      rotate_left
      · rintro w hSw
        go_simp
        try with_reducible rfl
      try simp only [Act.put, List.setIfInBounds_toArray, List.set_cons_zero, List.set_cons_succ]
      refine wpAnyH_one (i := 8) rfl (by kernel_rfl) (fun K hK => ?_)
      go_simp
      refine (decE _ _ 10 d2.out _).mono ?_
      rintro e w5 ⟨rfl, b5⟩
      first | (obtain ⟨c0, c1, c2, f0, f1, f2⟩ := rep_early b5) | (obtain ⟨c0, c1, c2, f0, f1, f2⟩ := rep_late b5)
      refine hK.out _ _ trivial (fun hHeld => ?_)
      clear hK K
      try simp only [Act.put, List.setIfInBounds_toArray, List.set_cons_zero, List.set_cons_succ]
      refine wpAnyH_takeD (i := 9) (v := ?_) rfl (by kernel_rfl) (by kernel_rfl) (by kernel_rfl) (fun _ _ _ h => h) (Or.inl ⟨by rfl, ?_⟩) hHeld ?_
      rotate_left
      · rintro w hSw
        go_simp
        try with_reducible rfl
      try simp only [Act.put, List.setIfInBounds_toArray, List.set_cons_zero, List.set_cons_succ]
      refine wpAnyH_takeD (i := 10) (v := ?_) rfl (by kernel_rfl) (by kernel_rfl) (by kernel_rfl) (fun _ _ _ h => h) (Or.inl ⟨by rfl, ?_⟩) hHeld ?_
      rotate_left
      · rintro w hSw
        go_simp
        try with_reducible rfl
      try simp only [Act.put, List.setIfInBounds_toArray, List.set_cons_zero, List.set_cons_succ]
      refine wpAnyH_takeD (i := 11) (v := ?_) rfl (by kernel_rfl) (by kernel_rfl) (by kernel_rfl) (fun _ _ _ h => h) (Or.inl ⟨by rfl, ?_⟩) hHeld ?_
      rotate_left
      · rintro w hSw
        go_simp
        try with_reducible rfl
      try simp only [Act.put, List.setIfInBounds_toArray, List.set_cons_zero, List.set_cons_succ]
      refine wpAnyH_one (i := 13) rfl (by kernel_rfl) (fun K hK => ?_)
      go_simp
      refine hK.out _ _ trivial (fun hHeld => ?_)
      clear hK K
      try simp only [Act.put, List.setIfInBounds_toArray, List.set_cons_zero, List.set_cons_succ]
      refine wpAnyH_takeD (i := 14) (v := ?_) rfl (by kernel_rfl) (by kernel_rfl) (by kernel_rfl) (fun _ _ _ h => h) (Or.inl ⟨by rfl, ?_⟩) hHeld ?_
      rotate_left
      · rintro w hSw
        go_simp
        try with_reducible rfl
      try simp only [Act.put, List.setIfInBounds_toArray, List.set_cons_zero, List.set_cons_succ]
      refine wpAnyH_done (by kernel_rfl) ?_ _
      refine NoPanic.normal ?_
      have hsz4 := b4.out.size
      go_wp2_with fail
      go_meet
      case rel => first | exact ⟨rfl, Lib.hid ((below_one b4.out b5).alloc (below_one b4.out b5).size _)⟩ | exact ⟨rfl, Lib.hid (below_rep (below_two b4.out b5) _ (by omega) _ _ _)⟩
  case rest =>
    obtain ⟨rfl, b5⟩ := hcut
    clear b4 k1 k2 k3
    go_wp2_with fail
    refine (decE S _ 0 d3.out _).mono ?_
    rintro e w6 ⟨rfl, q6⟩
    have b6 : Hid (Below w.heap.size w w6) := Lib.hid (b5.out.trans (q6.mono b5.out.size))
    clear b5 q6
    go_wp2_with fail
    refine (chkE 8 0 0 9 (by decide) _).mono ?_
    rintro e w7 ⟨rfl, q7⟩
    go_wp2_with fail
    refine (chkE 0 0 0 2 (by decide) _).mono ?_
    rintro e w8 ⟨rfl, q8⟩
    go_wp2_with fail
    refine (chkE 0 1 5001 2 (by decide) _).mono ?_
    rintro e w9 ⟨rfl, q9⟩
    go_wp2_with fail
    go_returns
    exact ⟨rfl, (b6.out.alloc b6.out.size _).trans ((bthen q7 (bthen q8 q9)).mono (b6.out.alloc b6.out.size _).size)⟩

end Go.Proofs.Ytljdkaajlmcpkaa
