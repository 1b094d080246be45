/-
  aerialref13: two, Encode by contract. (The region's orders printed by mkb5.py.)
-/
import Derived.Test.YtdipbdoekmcgbaaBbh4
import Derived.Deep.CutBlock
namespace Go.Proofs.Ytdipbdoekmcgbaa
open Go.RowKit

def twoS (x : Nat) : ByteArray := ⟨#[UInt8.ofNat (x / 256), UInt8.ofNat (x % 256)]⟩
set_option maxRecDepth 100000 in
set_option maxHeartbeats 400000 in
theorem two_is (x : Nat) (hx : x ≤ 65535) (w : World) : Calls Try.prog 30 #[.int .i64 x] w fun e w' => e = .returned (.string (twoS x)) ∧ Below w.heap.size w w' := by
  have hcv : ∀ w : World, (convert 32 9 (.slice (some ⟨w.heap.size, 0, none⟩) 2 2)).run Try.prog (w.alloc (.cells #[.int .u8 ((x : Int) / 256), .int .u8 ((x : Int) % 256)] 5)) = .ok (.string (twoS x)) (w.alloc (.cells #[.int .u8 ((x : Int) / 256), .int .u8 ((x : Int) % 256)] 5)) := fun w =>
    conv_nat _ w.heap.size [x / 256, x % 256] [] 5 (Blk.new w _ _) 2 2 rfl
  go_enter Try.func30, Try.ntmps30
  go_wp2
  go_returns
  exact ⟨rfl, (Below.refl _ _).alloc (Nat.le_refl _) _⟩

/-- A header's cells. -/
def HeadAt (w : World) (o : Nat) (a b c d e : Int) : Prop := w.cell? ⟨o, 0, none⟩ = some (.int .i64 a) ∧ w.cell? ⟨o, 1, none⟩ = some (.int .i64 b) ∧ w.cell? ⟨o, 2, none⟩ = some (.int .i64 c) ∧ w.cell? ⟨o, 3, none⟩ = some (.int .i64 d) ∧ w.cell? ⟨o, 4, none⟩ = some (.int .i64 e)
theorem Blk.head {w : World} {o : Nat} {a b c d e : Int} (h : Blk w o (headC a b c d e) THead) : HeadAt w o a b c d e := ⟨h.cell 0 rfl, h.cell 1 rfl, h.cell 2 rfl, h.cell 3 rfl, h.cell 4 rfl⟩

set_option maxRecDepth 100000 in
set_option maxHeartbeats 400000 in
theorem rencode_no (a b c d e : Int) (h : headE a b c d e ≠ 0) (w : World) : Calls Try.prog 14 #[headV a b c d e] w fun r w' => r = .returned (.tuple #[.string ⟨#[]⟩, .int .i64 (headE a b c d e)]) ∧ Below w.heap.size w w' := by
  have h2 := headE_two h
  have hm : mayB a 65535 b 65535 c 58112 d 255 e 65535 = false := by
    unfold headE at h
    cases hm : mayB a 65535 b 65535 c 58112 d 255 e 65535 with
    | false => rfl
    | true => rw [hm] at h; exact absurd rfl h
  rw [h2]
  have HM := Lib.hid hm
  clear hm h h2
  go_enter Try.func14, Try.ntmps14
  go_wp2_with fail
  refine (may_is a b c d e _).mono ?_
  rw [HM.out]
  rintro r w1 ⟨rfl, b1⟩
  go_wp2_with fail
  go_returns
  exact ⟨rfl, ((Below.refl _ _).alloc (Nat.le_refl _) _).trans (b1.mono (by simp))⟩

set_option maxRecDepth 100000 in
set_option maxHeartbeats 3200000 in
theorem rencode_is (a b c d e : Nat) (ha : a ≤ 65535) (hb : b ≤ 65535) (hc : c ≤ 58112) (hd : d ≤ 255) (he : e ≤ 65535) (w : World) :
    Calls Try.prog 14 #[headV a b c d e] w fun r w' => r = .returned (.tuple #[.string (headB a b c d e), .int .i64 0]) ∧ Below w.heap.size w w' := by
  have HM : Hid (mayB a 65535 b 65535 c 58112 d 255 e 65535 = true) := Lib.hid (may_yes (by omega))
  have HWD : Hid (IntKind.u8.wrap (d : Int) = d) := Lib.hid (by rw [IntKind.wrap_u8]; omega)
  have hc : c ≤ 65535 := by omega
  obtain ⟨TA, hTA⟩ : ∃ T, twoS a = T := ⟨_, rfl⟩
  obtain ⟨TB, hTB⟩ : ∃ T, twoS b = T := ⟨_, rfl⟩
  obtain ⟨TC, hTC⟩ : ∃ T, twoS c = T := ⟨_, rfl⟩
  obtain ⟨TE, hTE⟩ : ∃ T, twoS e = T := ⟨_, rfl⟩
  obtain ⟨DB, hDB⟩ : ∃ T : ByteArray, ⟨#[UInt8.ofNat d]⟩ = T := ⟨_, rfl⟩
  obtain ⟨T2, hT2⟩ : ∃ T, TA ++ TB = T := ⟨_, rfl⟩
  obtain ⟨T3, hT3⟩ : ∃ T, T2 ++ TC = T := ⟨_, rfl⟩
  obtain ⟨T4, hT4⟩ : ∃ T, T3 ++ DB = T := ⟨_, rfl⟩
  obtain ⟨T5, hT5⟩ : ∃ T, T4 ++ TE = T := ⟨_, rfl⟩
  have z1 : TA.size + TB.size = 4 := by rw [← hTA, ← hTB]; rfl
  have z2 : T2.size + TC.size = 6 := by rw [← hT2, ByteArray.size_append, ← hTA, ← hTB, ← hTC]; rfl
  have z3 : T3.size + DB.size = 7 := by rw [← hT3, ByteArray.size_append, ← hT2, ByteArray.size_append, ← hTA, ← hTB, ← hTC, ← hDB]; rfl
  have z4 : T4.size + TE.size = 9 := by rw [← hT4, ByteArray.size_append, ← hT3, ByteArray.size_append, ← hT2, ByteArray.size_append, ← hTA, ← hTB, ← hTC, ← hDB, ← hTE]; rfl
  have h5 : Hid (T5 = headS a b c d e) := Lib.hid (by
    rw [← hT5, ← hT4, ← hT3, ← hT2, ← hTA, ← hTB, ← hTC, ← hDB, ← hTE]
    apply ByteArray.ext
    simp [twoS, headS, headL, headN])
  go_enter Try.func14, Try.ntmps14
  go_wp2_with fail
  refine (may_is a b c d e _).mono ?_
  rw [HM.out]
  rintro r w1 ⟨rfl, q1⟩
  have B1 : Hid (Blk w1 w.heap.size (headC a b c d e) THead) := Lib.hid ((Blk.new w (headC a b c d e) THead).below q1 (by simp))
  have b0 : Hid (Below w.heap.size w w1) := Lib.hid (((Below.refl _ _).alloc (Nat.le_refl _) _).trans (q1.mono (by simp)))
  clear q1
  go_upto_region 3 with fail
  go_cut [4] (fun s wx => s = .string T5 ∧ Hid (Below w.heap.size w wx))
  case first =>
    have HD : Hid (Blk w1.drew w.heap.size (headC a b c d e) THead) := Lib.hid B1.out.drew
    have BW : Hid (Below w.heap.size w w1.drew) := Lib.hid b0.out.drew
    clear B1 b0
    rw [← hTA, ← hTB, ← hTC, ← hTE] at *
    refine wp_region_noPanic ?_
    refine wp_region_held_drew (S := (fun w' => HeadAt w' w.heap.size a b c d e)) (by kernel_rfl) (HD.out.head) (fun hHeld => ?_)
    generalize w1.drew = v0 at *
    refine wpAnyH_takeD (i := 0) (v := ?_) rfl (by kernel_rfl) (by kernel_rfl) (by kernel_rfl) (fun _ _ _ h => h) (Or.inl ⟨by rfl, ?_⟩) hHeld ?_
    rotate_left
    · rintro w ⟨s0, s1, s2, s3, s4⟩
      go_simp
      try with_reducible rfl
    try simp only [Act.put, List.setIfInBounds_toArray, List.set_cons_zero, List.set_cons_succ]
    refine wpAnyH_takeD (i := 1) (v := ?_) rfl (by kernel_rfl) (by kernel_rfl) (by kernel_rfl) (fun _ _ _ h => h) (Or.inl ⟨by rfl, ?_⟩) hHeld ?_
    rotate_left
    · rintro w ⟨s0, s1, s2, s3, s4⟩
      go_simp
      try with_reducible rfl
    try simp only [Act.put, List.setIfInBounds_toArray, List.set_cons_zero, List.set_cons_succ]
    refine wpAnyH_takeD (i := 3) (v := ?_) rfl (by kernel_rfl) (by kernel_rfl) (by kernel_rfl) (fun _ _ _ h => h) (Or.inl ⟨by rfl, ?_⟩) hHeld ?_
    rotate_left
    · rintro w ⟨s0, s1, s2, s3, s4⟩
      go_simp
      try with_reducible rfl
    try simp only [Act.put, List.setIfInBounds_toArray, List.set_cons_zero, List.set_cons_succ]
    refine wpAnyH_takeD (i := 4) (v := ?_) rfl (by kernel_rfl) (by kernel_rfl) (by kernel_rfl) (fun _ _ _ h => h) (Or.inl ⟨by rfl, ?_⟩) hHeld ?_
    rotate_left
    · rintro w ⟨s0, s1, s2, s3, s4⟩
      go_simp
      try with_reducible rfl
    try simp only [Act.put, List.setIfInBounds_toArray, List.set_cons_zero, List.set_cons_succ]
    refine wpAnyH_takeD (i := 7) (v := ?_) rfl (by kernel_rfl) (by kernel_rfl) (by kernel_rfl) (fun _ _ _ h => h) (Or.inl ⟨by rfl, ?_⟩) hHeld ?_
    rotate_left
    · rintro w ⟨s0, s1, s2, s3, s4⟩
      go_simp
      try with_reducible rfl
    try simp only [Act.put, List.setIfInBounds_toArray, List.set_cons_zero, List.set_cons_succ]
    refine wpAnyH_takeD (i := 8) (v := ?_) rfl (by kernel_rfl) (by kernel_rfl) (by kernel_rfl) (fun _ _ _ h => h) (Or.inl ⟨by rfl, ?_⟩) hHeld ?_
    rotate_left
    · rintro w ⟨s0, s1, s2, s3, s4⟩
      go_simp
      try with_reducible rfl
    try simp only [Act.put, List.setIfInBounds_toArray, List.set_cons_zero, List.set_cons_succ]
    refine wpAnyH_takeD (i := 11) (v := ?_) rfl (by kernel_rfl) (by kernel_rfl) (by kernel_rfl) (fun _ _ _ h => h) (Or.inl ⟨by rfl, ?_⟩) hHeld ?_
    rotate_left
    · rintro w ⟨s0, s1, s2, s3, s4⟩
      go_simp
      try with_reducible rfl
    try simp only [Act.put, List.setIfInBounds_toArray, List.set_cons_zero, List.set_cons_succ]
    refine wpAnyH_takeD (i := 12) (v := ?_) rfl (by kernel_rfl) (by kernel_rfl) (by kernel_rfl) (fun _ _ _ h => h) (Or.inl ⟨by rfl, ?_⟩) hHeld ?_
    rotate_left
    · rintro w ⟨s0, s1, s2, s3, s4⟩
      go_simp
      try with_reducible rfl
    try simp only [Act.put, List.setIfInBounds_toArray, List.set_cons_zero, List.set_cons_succ]
    refine wpAnyH_takeD (i := 13) (v := ?_) rfl (by kernel_rfl) (by kernel_rfl) (by kernel_rfl) (fun _ _ _ h => h) (Or.inl ⟨by rfl, ?_⟩) hHeld ?_
    rotate_left
    · rintro w ⟨s0, s1, s2, s3, s4⟩
      go_simp
      try with_reducible rfl
    try simp only [Act.put, List.setIfInBounds_toArray, List.set_cons_zero, List.set_cons_succ]
    refine wpAnyH_takeD (i := 17) (v := ?_) rfl (by kernel_rfl) (by kernel_rfl) (by kernel_rfl) (fun _ _ _ h => h) (Or.inl ⟨by rfl, ?_⟩) hHeld ?_
    rotate_left
    · rintro w ⟨s0, s1, s2, s3, s4⟩
      go_simp
      try with_reducible rfl
    try simp only [Act.put, List.setIfInBounds_toArray, List.set_cons_zero, List.set_cons_succ]
    refine wpAnyH_takeD (i := 18) (v := ?_) rfl (by kernel_rfl) (by kernel_rfl) (by kernel_rfl) (fun _ _ _ h => h) (Or.inl ⟨by rfl, ?_⟩) hHeld ?_
    rotate_left
    · rintro w ⟨s0, s1, s2, s3, s4⟩
      go_simp
      try with_reducible rfl
    try simp only [Act.put, List.setIfInBounds_toArray, List.set_cons_zero, List.set_cons_succ]
    refine wpAnyH_two (i := 2) (j := 14) rfl rfl (by kernel_rfl) (fun K hK => ?_) (fun K hK => ?_)
    · go_simp
      refine (two_is a ha _).mono ?_
      rintro r v1 ⟨rfl, q⟩
      have HD := Lib.hid (HD.out.below q HD.out.lt)
      have BW : Hid (Below w.heap.size w v1) := Lib.hid (BW.out.trans (q.mono BW.out.size))
      clear q
      refine hK.out _ _ (HD.out.head) (fun hHeld => ?_)
      clear hK K
      try simp only [Act.put, List.setIfInBounds_toArray, List.set_cons_zero, List.set_cons_succ]
      refine wpAnyH_two (i := 5) (j := 14) rfl rfl (by kernel_rfl) (fun K hK => ?_) (fun K hK => ?_)
      · go_simp
        refine (two_is b hb _).mono ?_
        rintro r v2 ⟨rfl, q⟩
        have HD := Lib.hid (HD.out.below q HD.out.lt)
        have BW : Hid (Below w.heap.size w v2) := Lib.hid (BW.out.trans (q.mono BW.out.size))
        clear q
        refine hK.out _ _ (HD.out.head) (fun hHeld => ?_)
        clear hK K
        try simp only [Act.put, List.setIfInBounds_toArray, List.set_cons_zero, List.set_cons_succ]
        refine wpAnyH_takeD (i := 6) (v := ?_) rfl (by kernel_rfl) (by kernel_rfl) (by kernel_rfl) (fun _ _ _ h => h) (Or.inl ⟨by rfl, ?_⟩) hHeld ?_
        rotate_left
        · rintro w hSw
          go_simp
          try with_reducible rfl
        try simp only [Act.put, List.setIfInBounds_toArray, List.set_cons_zero, List.set_cons_succ]
        refine wpAnyH_two (i := 9) (j := 14) rfl rfl (by kernel_rfl) (fun K hK => ?_) (fun K hK => ?_)
        · go_simp
          refine (two_is c hc _).mono ?_
          rintro r v3 ⟨rfl, q⟩
          have HD := Lib.hid (HD.out.below q HD.out.lt)
          have BW : Hid (Below w.heap.size w v3) := Lib.hid (BW.out.trans (q.mono BW.out.size))
          clear q
          refine hK.out _ _ (HD.out.head) (fun hHeld => ?_)
          clear hK K
          try simp only [Act.put, List.setIfInBounds_toArray, List.set_cons_zero, List.set_cons_succ]
          refine wpAnyH_takeD (i := 10) (v := ?_) rfl (by kernel_rfl) (by kernel_rfl) (by kernel_rfl) (fun _ _ _ h => h) (Or.inl ⟨by rfl, ?_⟩) hHeld ?_
          rotate_left
          · rintro w hSw
            go_simp
            try with_reducible rfl
          try simp only [Act.put, List.setIfInBounds_toArray, List.set_cons_zero, List.set_cons_succ]
          refine wpAnyH_two (i := 14) (j := 19) rfl rfl (by kernel_rfl) (fun K hK => ?_) (fun K hK => ?_)
          · go_simp
            generalize hx : World.alloc v3 _ = v4
            have HB : Hid (Blk v4 v3.heap.size [.int .u8 d] 5) := Lib.hid (by rw [← hx, HWD.out]; exact Blk.new v3 [.int .u8 d] _)
            have HD : Hid (Blk v4 w.heap.size (headC a b c d e) THead) := Lib.hid (by rw [← hx]; exact HD.out.alloc _)
            have BW : Hid (Below w.heap.size w v4) := Lib.hid (by rw [← hx]; exact BW.out.alloc BW.out.size _)
            have hcv := conv_byte HB.out 1
            rw [hDB] at hcv
            clear hx
            refine hK.out _ _ (HD.out.head) (fun hHeld => ?_)
            clear hK K
            try simp only [Act.put, List.setIfInBounds_toArray, List.set_cons_zero, List.set_cons_succ]
            refine wpAnyH_two (i := 15) (j := 19) rfl rfl (by kernel_rfl) (fun K hK => ?_) (fun K hK => ?_)
            · go_simp
              refine hK.out _ _ (HD.out.head) (fun hHeld => ?_)
              clear hK K
              try simp only [Act.put, List.setIfInBounds_toArray, List.set_cons_zero, List.set_cons_succ]
              refine wpAnyH_takeD (i := 16) (v := ?_) rfl (by kernel_rfl) (by kernel_rfl) (by kernel_rfl) (fun _ _ _ h => h) (Or.inl ⟨by rfl, ?_⟩) hHeld ?_
              rotate_left
              · rintro w hSw
                go_simp
                try with_reducible rfl
              try simp only [Act.put, List.setIfInBounds_toArray, List.set_cons_zero, List.set_cons_succ]
              refine wpAnyH_one (i := 19) rfl (by kernel_rfl) (fun K hK => ?_)
              go_simp
              refine (two_is e he _).mono ?_
              rintro r v5 ⟨rfl, q⟩
              have HD := Lib.hid (HD.out.below q HD.out.lt)
              have BW : Hid (Below w.heap.size w v5) := Lib.hid (BW.out.trans (q.mono BW.out.size))
              clear q
              refine hK.out _ _ (HD.out.head) (fun hHeld => ?_)
              clear hK K
              try simp only [Act.put, List.setIfInBounds_toArray, List.set_cons_zero, List.set_cons_succ]
              refine wpAnyH_takeD (i := 20) (v := ?_) rfl (by kernel_rfl) (by kernel_rfl) (by kernel_rfl) (fun _ _ _ h => h) (Or.inl ⟨by rfl, ?_⟩) hHeld ?_
              rotate_left
              · rintro w hSw
                go_simp
                try with_reducible rfl
              try simp only [Act.put, List.setIfInBounds_toArray, List.set_cons_zero, List.set_cons_succ]
              refine wpAnyH_takeD (i := 21) (v := ?_) rfl (by kernel_rfl) (by kernel_rfl) (by kernel_rfl) (fun _ _ _ h => h) (Or.inl ⟨by rfl, ?_⟩) hHeld ?_
              rotate_left
              · rintro w hSw
                go_simp
                try with_reducible rfl
              try simp only [Act.put, List.setIfInBounds_toArray, List.set_cons_zero, List.set_cons_succ]
              refine wpAnyH_done (by kernel_rfl) ?_ _
              refine NoPanic.normal ?_
              go_wp2_with fail
              go_meet
              case rel => exact ⟨rfl, BW⟩
            · go_simp
              refine (two_is e he _).mono ?_
              rintro r v6 ⟨rfl, q⟩
              have HD := Lib.hid (HD.out.below q HD.out.lt)
              have BW : Hid (Below w.heap.size w v6) := Lib.hid (BW.out.trans (q.mono BW.out.size))
              have HB := Lib.hid (HB.out.below q HB.out.lt)
              have hcv := conv_byte HB.out 1
              rw [hDB] at hcv
              clear q
              refine hK.out _ _ (HD.out.head) (fun hHeld => ?_)
              clear hK K
              try simp only [Act.put, List.setIfInBounds_toArray, List.set_cons_zero, List.set_cons_succ]
              refine wpAnyH_one (i := 15) rfl (by kernel_rfl) (fun K hK => ?_)
              go_simp
              refine hK.out _ _ (HD.out.head) (fun hHeld => ?_)
              clear hK K
              try simp only [Act.put, List.setIfInBounds_toArray, List.set_cons_zero, List.set_cons_succ]
              refine wpAnyH_takeD (i := 16) (v := ?_) rfl (by kernel_rfl) (by kernel_rfl) (by kernel_rfl) (fun _ _ _ h => h) (Or.inl ⟨by rfl, ?_⟩) hHeld ?_
              rotate_left
              · rintro w hSw
                go_simp
                try with_reducible rfl
              try simp only [Act.put, List.setIfInBounds_toArray, List.set_cons_zero, List.set_cons_succ]
              refine wpAnyH_takeD (i := 20) (v := ?_) rfl (by kernel_rfl) (by kernel_rfl) (by kernel_rfl) (fun _ _ _ h => h) (Or.inl ⟨by rfl, ?_⟩) hHeld ?_
              rotate_left
              · rintro w hSw
                go_simp
                try with_reducible rfl
              try simp only [Act.put, List.setIfInBounds_toArray, List.set_cons_zero, List.set_cons_succ]
              refine wpAnyH_takeD (i := 21) (v := ?_) rfl (by kernel_rfl) (by kernel_rfl) (by kernel_rfl) (fun _ _ _ h => h) (Or.inl ⟨by rfl, ?_⟩) hHeld ?_
              rotate_left
              · rintro w hSw
                go_simp
                try with_reducible rfl
              try simp only [Act.put, List.setIfInBounds_toArray, List.set_cons_zero, List.set_cons_succ]
              refine wpAnyH_done (by kernel_rfl) ?_ _
              refine NoPanic.normal ?_
              go_wp2_with fail
              go_meet
              case rel => exact ⟨rfl, BW⟩
          · go_simp
            refine (two_is e he _).mono ?_
            rintro r v7 ⟨rfl, q⟩
            have HD := Lib.hid (HD.out.below q HD.out.lt)
            have BW : Hid (Below w.heap.size w v7) := Lib.hid (BW.out.trans (q.mono BW.out.size))
            clear q
            refine hK.out _ _ (HD.out.head) (fun hHeld => ?_)
            clear hK K
            try simp only [Act.put, List.setIfInBounds_toArray, List.set_cons_zero, List.set_cons_succ]
            refine wpAnyH_one (i := 14) rfl (by kernel_rfl) (fun K hK => ?_)
            go_simp
            generalize hx : World.alloc v7 _ = v8
            have HB : Hid (Blk v8 v7.heap.size [.int .u8 d] 5) := Lib.hid (by rw [← hx, HWD.out]; exact Blk.new v7 [.int .u8 d] _)
            have HD : Hid (Blk v8 w.heap.size (headC a b c d e) THead) := Lib.hid (by rw [← hx]; exact HD.out.alloc _)
            have BW : Hid (Below w.heap.size w v8) := Lib.hid (by rw [← hx]; exact BW.out.alloc BW.out.size _)
            have hcv := conv_byte HB.out 1
            rw [hDB] at hcv
            clear hx
            refine hK.out _ _ (HD.out.head) (fun hHeld => ?_)
            clear hK K
            try simp only [Act.put, List.setIfInBounds_toArray, List.set_cons_zero, List.set_cons_succ]
            refine wpAnyH_one (i := 15) rfl (by kernel_rfl) (fun K hK => ?_)
            go_simp
            refine hK.out _ _ (HD.out.head) (fun hHeld => ?_)
            clear hK K
            try simp only [Act.put, List.setIfInBounds_toArray, List.set_cons_zero, List.set_cons_succ]
            refine wpAnyH_takeD (i := 16) (v := ?_) rfl (by kernel_rfl) (by kernel_rfl) (by kernel_rfl) (fun _ _ _ h => h) (Or.inl ⟨by rfl, ?_⟩) hHeld ?_
            rotate_left
            · rintro w hSw
              go_simp
              try with_reducible rfl
            try simp only [Act.put, List.setIfInBounds_toArray, List.set_cons_zero, List.set_cons_succ]
            refine wpAnyH_takeD (i := 20) (v := ?_) rfl (by kernel_rfl) (by kernel_rfl) (by kernel_rfl) (fun _ _ _ h => h) (Or.inl ⟨by rfl, ?_⟩) hHeld ?_
            rotate_left
            · rintro w hSw
              go_simp
              try with_reducible rfl
            try simp only [Act.put, List.setIfInBounds_toArray, List.set_cons_zero, List.set_cons_succ]
            refine wpAnyH_takeD (i := 21) (v := ?_) rfl (by kernel_rfl) (by kernel_rfl) (by kernel_rfl) (fun _ _ _ h => h) (Or.inl ⟨by rfl, ?_⟩) hHeld ?_
            rotate_left
            · rintro w hSw
              go_simp
              try with_reducible rfl
            try simp only [Act.put, List.setIfInBounds_toArray, List.set_cons_zero, List.set_cons_succ]
            refine wpAnyH_done (by kernel_rfl) ?_ _
            refine NoPanic.normal ?_
            go_wp2_with fail
            go_meet
            case rel => exact ⟨rfl, BW⟩
        · go_simp
          generalize hx : World.alloc v2 _ = v9
          have HB : Hid (Blk v9 v2.heap.size [.int .u8 d] 5) := Lib.hid (by rw [← hx, HWD.out]; exact Blk.new v2 [.int .u8 d] _)
          have HD : Hid (Blk v9 w.heap.size (headC a b c d e) THead) := Lib.hid (by rw [← hx]; exact HD.out.alloc _)
          have BW : Hid (Below w.heap.size w v9) := Lib.hid (by rw [← hx]; exact BW.out.alloc BW.out.size _)
          have hcv := conv_byte HB.out 1
          rw [hDB] at hcv
          clear hx
          refine hK.out _ _ (HD.out.head) (fun hHeld => ?_)
          clear hK K
          try simp only [Act.put, List.setIfInBounds_toArray, List.set_cons_zero, List.set_cons_succ]
          refine wpAnyH_two (i := 9) (j := 15) rfl rfl (by kernel_rfl) (fun K hK => ?_) (fun K hK => ?_)
          · go_simp
            refine (two_is c hc _).mono ?_
            rintro r v10 ⟨rfl, q⟩
            have HD := Lib.hid (HD.out.below q HD.out.lt)
            have BW : Hid (Below w.heap.size w v10) := Lib.hid (BW.out.trans (q.mono BW.out.size))
            have HB := Lib.hid (HB.out.below q HB.out.lt)
            have hcv := conv_byte HB.out 1
            rw [hDB] at hcv
            clear q
            refine hK.out _ _ (HD.out.head) (fun hHeld => ?_)
            clear hK K
            try simp only [Act.put, List.setIfInBounds_toArray, List.set_cons_zero, List.set_cons_succ]
            refine wpAnyH_takeD (i := 10) (v := ?_) rfl (by kernel_rfl) (by kernel_rfl) (by kernel_rfl) (fun _ _ _ h => h) (Or.inl ⟨by rfl, ?_⟩) hHeld ?_
            rotate_left
            · rintro w hSw
              go_simp
              try with_reducible rfl
            try simp only [Act.put, List.setIfInBounds_toArray, List.set_cons_zero, List.set_cons_succ]
            refine wpAnyH_two (i := 15) (j := 19) rfl rfl (by kernel_rfl) (fun K hK => ?_) (fun K hK => ?_)
            · go_simp
              refine hK.out _ _ (HD.out.head) (fun hHeld => ?_)
              clear hK K
              try simp only [Act.put, List.setIfInBounds_toArray, List.set_cons_zero, List.set_cons_succ]
              refine wpAnyH_takeD (i := 16) (v := ?_) rfl (by kernel_rfl) (by kernel_rfl) (by kernel_rfl) (fun _ _ _ h => h) (Or.inl ⟨by rfl, ?_⟩) hHeld ?_
              rotate_left
              · rintro w hSw
                go_simp
                try with_reducible rfl
              try simp only [Act.put, List.setIfInBounds_toArray, List.set_cons_zero, List.set_cons_succ]
              refine wpAnyH_one (i := 19) rfl (by kernel_rfl) (fun K hK => ?_)
              go_simp
              refine (two_is e he _).mono ?_
              rintro r v11 ⟨rfl, q⟩
              have HD := Lib.hid (HD.out.below q HD.out.lt)
              have BW : Hid (Below w.heap.size w v11) := Lib.hid (BW.out.trans (q.mono BW.out.size))
              clear q
              refine hK.out _ _ (HD.out.head) (fun hHeld => ?_)
              clear hK K
              try simp only [Act.put, List.setIfInBounds_toArray, List.set_cons_zero, List.set_cons_succ]
              refine wpAnyH_takeD (i := 20) (v := ?_) rfl (by kernel_rfl) (by kernel_rfl) (by kernel_rfl) (fun _ _ _ h => h) (Or.inl ⟨by rfl, ?_⟩) hHeld ?_
              rotate_left
              · rintro w hSw
                go_simp
                try with_reducible rfl
              try simp only [Act.put, List.setIfInBounds_toArray, List.set_cons_zero, List.set_cons_succ]
              refine wpAnyH_takeD (i := 21) (v := ?_) rfl (by kernel_rfl) (by kernel_rfl) (by kernel_rfl) (fun _ _ _ h => h) (Or.inl ⟨by rfl, ?_⟩) hHeld ?_
              rotate_left
              · rintro w hSw
                go_simp
                try with_reducible rfl
              try simp only [Act.put, List.setIfInBounds_toArray, List.set_cons_zero, List.set_cons_succ]
              refine wpAnyH_done (by kernel_rfl) ?_ _
              refine NoPanic.normal ?_
              go_wp2_with fail
              go_meet
              case rel => exact ⟨rfl, BW⟩
            · go_simp
              refine (two_is e he _).mono ?_
              rintro r v12 ⟨rfl, q⟩
              have HD := Lib.hid (HD.out.below q HD.out.lt)
              have BW : Hid (Below w.heap.size w v12) := Lib.hid (BW.out.trans (q.mono BW.out.size))
              have HB := Lib.hid (HB.out.below q HB.out.lt)
              have hcv := conv_byte HB.out 1
              rw [hDB] at hcv
              clear q
              refine hK.out _ _ (HD.out.head) (fun hHeld => ?_)
              clear hK K
              try simp only [Act.put, List.setIfInBounds_toArray, List.set_cons_zero, List.set_cons_succ]
              refine wpAnyH_one (i := 15) rfl (by kernel_rfl) (fun K hK => ?_)
              go_simp
              refine hK.out _ _ (HD.out.head) (fun hHeld => ?_)
              clear hK K
              try simp only [Act.put, List.setIfInBounds_toArray, List.set_cons_zero, List.set_cons_succ]
              refine wpAnyH_takeD (i := 16) (v := ?_) rfl (by kernel_rfl) (by kernel_rfl) (by kernel_rfl) (fun _ _ _ h => h) (Or.inl ⟨by rfl, ?_⟩) hHeld ?_
              rotate_left
              · rintro w hSw
                go_simp
                try with_reducible rfl
              try simp only [Act.put, List.setIfInBounds_toArray, List.set_cons_zero, List.set_cons_succ]
              refine wpAnyH_takeD (i := 20) (v := ?_) rfl (by kernel_rfl) (by kernel_rfl) (by kernel_rfl) (fun _ _ _ h => h) (Or.inl ⟨by rfl, ?_⟩) hHeld ?_
              rotate_left
              · rintro w hSw
                go_simp
                try with_reducible rfl
              try simp only [Act.put, List.setIfInBounds_toArray, List.set_cons_zero, List.set_cons_succ]
              refine wpAnyH_takeD (i := 21) (v := ?_) rfl (by kernel_rfl) (by kernel_rfl) (by kernel_rfl) (fun _ _ _ h => h) (Or.inl ⟨by rfl, ?_⟩) hHeld ?_
              rotate_left
              · rintro w hSw
                go_simp
                try with_reducible rfl
              try simp only [Act.put, List.setIfInBounds_toArray, List.set_cons_zero, List.set_cons_succ]
              refine wpAnyH_done (by kernel_rfl) ?_ _
              refine NoPanic.normal ?_
              go_wp2_with fail
              go_meet
              case rel => exact ⟨rfl, BW⟩
          · go_simp
            refine hK.out _ _ (HD.out.head) (fun hHeld => ?_)
            clear hK K
            try simp only [Act.put, List.setIfInBounds_toArray, List.set_cons_zero, List.set_cons_succ]
            refine wpAnyH_one (i := 9) rfl (by kernel_rfl) (fun K hK => ?_)
            go_simp
            refine (two_is c hc _).mono ?_
            rintro r v13 ⟨rfl, q⟩
            have HD := Lib.hid (HD.out.below q HD.out.lt)
            have BW : Hid (Below w.heap.size w v13) := Lib.hid (BW.out.trans (q.mono BW.out.size))
            clear q
            refine hK.out _ _ (HD.out.head) (fun hHeld => ?_)
            clear hK K
            try simp only [Act.put, List.setIfInBounds_toArray, List.set_cons_zero, List.set_cons_succ]
            refine wpAnyH_takeD (i := 10) (v := ?_) rfl (by kernel_rfl) (by kernel_rfl) (by kernel_rfl) (fun _ _ _ h => h) (Or.inl ⟨by rfl, ?_⟩) hHeld ?_
            rotate_left
            · rintro w hSw
              go_simp
              try with_reducible rfl
            try simp only [Act.put, List.setIfInBounds_toArray, List.set_cons_zero, List.set_cons_succ]
            refine wpAnyH_takeD (i := 16) (v := ?_) rfl (by kernel_rfl) (by kernel_rfl) (by kernel_rfl) (fun _ _ _ h => h) (Or.inl ⟨by rfl, ?_⟩) hHeld ?_
            rotate_left
            · rintro w hSw
              go_simp
              try with_reducible rfl
            try simp only [Act.put, List.setIfInBounds_toArray, List.set_cons_zero, List.set_cons_succ]
            refine wpAnyH_one (i := 19) rfl (by kernel_rfl) (fun K hK => ?_)
            go_simp
            refine (two_is e he _).mono ?_
            rintro r v14 ⟨rfl, q⟩
            have HD := Lib.hid (HD.out.below q HD.out.lt)
            have BW : Hid (Below w.heap.size w v14) := Lib.hid (BW.out.trans (q.mono BW.out.size))
            clear q
            refine hK.out _ _ (HD.out.head) (fun hHeld => ?_)
            clear hK K
            try simp only [Act.put, List.setIfInBounds_toArray, List.set_cons_zero, List.set_cons_succ]
            refine wpAnyH_takeD (i := 20) (v := ?_) rfl (by kernel_rfl) (by kernel_rfl) (by kernel_rfl) (fun _ _ _ h => h) (Or.inl ⟨by rfl, ?_⟩) hHeld ?_
            rotate_left
            · rintro w hSw
              go_simp
              try with_reducible rfl
            try simp only [Act.put, List.setIfInBounds_toArray, List.set_cons_zero, List.set_cons_succ]
            refine wpAnyH_takeD (i := 21) (v := ?_) rfl (by kernel_rfl) (by kernel_rfl) (by kernel_rfl) (fun _ _ _ h => h) (Or.inl ⟨by rfl, ?_⟩) hHeld ?_
            rotate_left
            · rintro w hSw
              go_simp
              try with_reducible rfl
            try simp only [Act.put, List.setIfInBounds_toArray, List.set_cons_zero, List.set_cons_succ]
            refine wpAnyH_done (by kernel_rfl) ?_ _
            refine NoPanic.normal ?_
            go_wp2_with fail
            go_meet
            case rel => exact ⟨rfl, BW⟩
      · go_simp
        generalize hx : World.alloc v1 _ = v15
        have HB : Hid (Blk v15 v1.heap.size [.int .u8 d] 5) := Lib.hid (by rw [← hx, HWD.out]; exact Blk.new v1 [.int .u8 d] _)
        have HD : Hid (Blk v15 w.heap.size (headC a b c d e) THead) := Lib.hid (by rw [← hx]; exact HD.out.alloc _)
        have BW : Hid (Below w.heap.size w v15) := Lib.hid (by rw [← hx]; exact BW.out.alloc BW.out.size _)
        have hcv := conv_byte HB.out 1
        rw [hDB] at hcv
        clear hx
        refine hK.out _ _ (HD.out.head) (fun hHeld => ?_)
        clear hK K
        try simp only [Act.put, List.setIfInBounds_toArray, List.set_cons_zero, List.set_cons_succ]
        refine wpAnyH_two (i := 5) (j := 15) rfl rfl (by kernel_rfl) (fun K hK => ?_) (fun K hK => ?_)
        · go_simp
          refine (two_is b hb _).mono ?_
          rintro r v16 ⟨rfl, q⟩
          have HD := Lib.hid (HD.out.below q HD.out.lt)
          have BW : Hid (Below w.heap.size w v16) := Lib.hid (BW.out.trans (q.mono BW.out.size))
          have HB := Lib.hid (HB.out.below q HB.out.lt)
          have hcv := conv_byte HB.out 1
          rw [hDB] at hcv
          clear q
          refine hK.out _ _ (HD.out.head) (fun hHeld => ?_)
          clear hK K
          try simp only [Act.put, List.setIfInBounds_toArray, List.set_cons_zero, List.set_cons_succ]
          refine wpAnyH_takeD (i := 6) (v := ?_) rfl (by kernel_rfl) (by kernel_rfl) (by kernel_rfl) (fun _ _ _ h => h) (Or.inl ⟨by rfl, ?_⟩) hHeld ?_
          rotate_left
          · rintro w hSw
            go_simp
            try with_reducible rfl
          try simp only [Act.put, List.setIfInBounds_toArray, List.set_cons_zero, List.set_cons_succ]
          refine wpAnyH_two (i := 9) (j := 15) rfl rfl (by kernel_rfl) (fun K hK => ?_) (fun K hK => ?_)
          · go_simp
            refine (two_is c hc _).mono ?_
            rintro r v17 ⟨rfl, q⟩
            have HD := Lib.hid (HD.out.below q HD.out.lt)
            have BW : Hid (Below w.heap.size w v17) := Lib.hid (BW.out.trans (q.mono BW.out.size))
            have HB := Lib.hid (HB.out.below q HB.out.lt)
            have hcv := conv_byte HB.out 1
            rw [hDB] at hcv
            clear q
            refine hK.out _ _ (HD.out.head) (fun hHeld => ?_)
            clear hK K
            try simp only [Act.put, List.setIfInBounds_toArray, List.set_cons_zero, List.set_cons_succ]
            refine wpAnyH_takeD (i := 10) (v := ?_) rfl (by kernel_rfl) (by kernel_rfl) (by kernel_rfl) (fun _ _ _ h => h) (Or.inl ⟨by rfl, ?_⟩) hHeld ?_
            rotate_left
            · rintro w hSw
              go_simp
              try with_reducible rfl
            try simp only [Act.put, List.setIfInBounds_toArray, List.set_cons_zero, List.set_cons_succ]
            refine wpAnyH_two (i := 15) (j := 19) rfl rfl (by kernel_rfl) (fun K hK => ?_) (fun K hK => ?_)
            · go_simp
              refine hK.out _ _ (HD.out.head) (fun hHeld => ?_)
              clear hK K
              try simp only [Act.put, List.setIfInBounds_toArray, List.set_cons_zero, List.set_cons_succ]
              refine wpAnyH_takeD (i := 16) (v := ?_) rfl (by kernel_rfl) (by kernel_rfl) (by kernel_rfl) (fun _ _ _ h => h) (Or.inl ⟨by rfl, ?_⟩) hHeld ?_
              rotate_left
              · rintro w hSw
                go_simp
                try with_reducible rfl
              try simp only [Act.put, List.setIfInBounds_toArray, List.set_cons_zero, List.set_cons_succ]
              refine wpAnyH_one (i := 19) rfl (by kernel_rfl) (fun K hK => ?_)
              go_simp
              refine (two_is e he _).mono ?_
              rintro r v18 ⟨rfl, q⟩
              have HD := Lib.hid (HD.out.below q HD.out.lt)
              have BW : Hid (Below w.heap.size w v18) := Lib.hid (BW.out.trans (q.mono BW.out.size))
              clear q
              refine hK.out _ _ (HD.out.head) (fun hHeld => ?_)
              clear hK K
              try simp only [Act.put, List.setIfInBounds_toArray, List.set_cons_zero, List.set_cons_succ]
              refine wpAnyH_takeD (i := 20) (v := ?_) rfl (by kernel_rfl) (by kernel_rfl) (by kernel_rfl) (fun _ _ _ h => h) (Or.inl ⟨by rfl, ?_⟩) hHeld ?_
              rotate_left
              · rintro w hSw
                go_simp
                try with_reducible rfl
              try simp only [Act.put, List.setIfInBounds_toArray, List.set_cons_zero, List.set_cons_succ]
              refine wpAnyH_takeD (i := 21) (v := ?_) rfl (by kernel_rfl) (by kernel_rfl) (by kernel_rfl) (fun _ _ _ h => h) (Or.inl ⟨by rfl, ?_⟩) hHeld ?_
              rotate_left
              · rintro w hSw
                go_simp
                try with_reducible rfl
              try simp only [Act.put, List.setIfInBounds_toArray, List.set_cons_zero, List.set_cons_succ]
              refine wpAnyH_done (by kernel_rfl) ?_ _
              refine NoPanic.normal ?_
              go_wp2_with fail
              go_meet
              case rel => exact ⟨rfl, BW⟩
            · go_simp
              refine (two_is e he _).mono ?_
              rintro r v19 ⟨rfl, q⟩
              have HD := Lib.hid (HD.out.below q HD.out.lt)
              have BW : Hid (Below w.heap.size w v19) := Lib.hid (BW.out.trans (q.mono BW.out.size))
              have HB := Lib.hid (HB.out.below q HB.out.lt)
              have hcv := conv_byte HB.out 1
              rw [hDB] at hcv
              clear q
              refine hK.out _ _ (HD.out.head) (fun hHeld => ?_)
              clear hK K
              try simp only [Act.put, List.setIfInBounds_toArray, List.set_cons_zero, List.set_cons_succ]
              refine wpAnyH_one (i := 15) rfl (by kernel_rfl) (fun K hK => ?_)
              go_simp
              refine hK.out _ _ (HD.out.head) (fun hHeld => ?_)
              clear hK K
              try simp only [Act.put, List.setIfInBounds_toArray, List.set_cons_zero, List.set_cons_succ]
              refine wpAnyH_takeD (i := 16) (v := ?_) rfl (by kernel_rfl) (by kernel_rfl) (by kernel_rfl) (fun _ _ _ h => h) (Or.inl ⟨by rfl, ?_⟩) hHeld ?_
              rotate_left
              · rintro w hSw
                go_simp
                try with_reducible rfl
              try simp only [Act.put, List.setIfInBounds_toArray, List.set_cons_zero, List.set_cons_succ]
              refine wpAnyH_takeD (i := 20) (v := ?_) rfl (by kernel_rfl) (by kernel_rfl) (by kernel_rfl) (fun _ _ _ h => h) (Or.inl ⟨by rfl, ?_⟩) hHeld ?_
              rotate_left
              · rintro w hSw
                go_simp
                try with_reducible rfl
              try simp only [Act.put, List.setIfInBounds_toArray, List.set_cons_zero, List.set_cons_succ]
              refine wpAnyH_takeD (i := 21) (v := ?_) rfl (by kernel_rfl) (by kernel_rfl) (by kernel_rfl) (fun _ _ _ h => h) (Or.inl ⟨by rfl, ?_⟩) hHeld ?_
              rotate_left
              · rintro w hSw
                go_simp
                try with_reducible rfl
              try simp only [Act.put, List.setIfInBounds_toArray, List.set_cons_zero, List.set_cons_succ]
              refine wpAnyH_done (by kernel_rfl) ?_ _
              refine NoPanic.normal ?_
              go_wp2_with fail
              go_meet
              case rel => exact ⟨rfl, BW⟩
          · go_simp
            refine hK.out _ _ (HD.out.head) (fun hHeld => ?_)
            clear hK K
            try simp only [Act.put, List.setIfInBounds_toArray, List.set_cons_zero, List.set_cons_succ]
            refine wpAnyH_one (i := 9) rfl (by kernel_rfl) (fun K hK => ?_)
            go_simp
            refine (two_is c hc _).mono ?_
            rintro r v20 ⟨rfl, q⟩
            have HD := Lib.hid (HD.out.below q HD.out.lt)
            have BW : Hid (Below w.heap.size w v20) := Lib.hid (BW.out.trans (q.mono BW.out.size))
            clear q
            refine hK.out _ _ (HD.out.head) (fun hHeld => ?_)
            clear hK K
            try simp only [Act.put, List.setIfInBounds_toArray, List.set_cons_zero, List.set_cons_succ]
            refine wpAnyH_takeD (i := 10) (v := ?_) rfl (by kernel_rfl) (by kernel_rfl) (by kernel_rfl) (fun _ _ _ h => h) (Or.inl ⟨by rfl, ?_⟩) hHeld ?_
            rotate_left
            · rintro w hSw
              go_simp
              try with_reducible rfl
            try simp only [Act.put, List.setIfInBounds_toArray, List.set_cons_zero, List.set_cons_succ]
            refine wpAnyH_takeD (i := 16) (v := ?_) rfl (by kernel_rfl) (by kernel_rfl) (by kernel_rfl) (fun _ _ _ h => h) (Or.inl ⟨by rfl, ?_⟩) hHeld ?_
            rotate_left
            · rintro w hSw
              go_simp
              try with_reducible rfl
            try simp only [Act.put, List.setIfInBounds_toArray, List.set_cons_zero, List.set_cons_succ]
            refine wpAnyH_one (i := 19) rfl (by kernel_rfl) (fun K hK => ?_)
            go_simp
            refine (two_is e he _).mono ?_
            rintro r v21 ⟨rfl, q⟩
            have HD := Lib.hid (HD.out.below q HD.out.lt)
            have BW : Hid (Below w.heap.size w v21) := Lib.hid (BW.out.trans (q.mono BW.out.size))
            clear q
            refine hK.out _ _ (HD.out.head) (fun hHeld => ?_)
            clear hK K
            try simp only [Act.put, List.setIfInBounds_toArray, List.set_cons_zero, List.set_cons_succ]
            refine wpAnyH_takeD (i := 20) (v := ?_) rfl (by kernel_rfl) (by kernel_rfl) (by kernel_rfl) (fun _ _ _ h => h) (Or.inl ⟨by rfl, ?_⟩) hHeld ?_
            rotate_left
            · rintro w hSw
              go_simp
              try with_reducible rfl
            try simp only [Act.put, List.setIfInBounds_toArray, List.set_cons_zero, List.set_cons_succ]
            refine wpAnyH_takeD (i := 21) (v := ?_) rfl (by kernel_rfl) (by kernel_rfl) (by kernel_rfl) (fun _ _ _ h => h) (Or.inl ⟨by rfl, ?_⟩) hHeld ?_
            rotate_left
            · rintro w hSw
              go_simp
              try with_reducible rfl
            try simp only [Act.put, List.setIfInBounds_toArray, List.set_cons_zero, List.set_cons_succ]
            refine wpAnyH_done (by kernel_rfl) ?_ _
            refine NoPanic.normal ?_
            go_wp2_with fail
            go_meet
            case rel => exact ⟨rfl, BW⟩
        · go_simp
          refine hK.out _ _ (HD.out.head) (fun hHeld => ?_)
          clear hK K
          try simp only [Act.put, List.setIfInBounds_toArray, List.set_cons_zero, List.set_cons_succ]
          refine wpAnyH_one (i := 5) rfl (by kernel_rfl) (fun K hK => ?_)
          go_simp
          refine (two_is b hb _).mono ?_
          rintro r v22 ⟨rfl, q⟩
          have HD := Lib.hid (HD.out.below q HD.out.lt)
          have BW : Hid (Below w.heap.size w v22) := Lib.hid (BW.out.trans (q.mono BW.out.size))
          clear q
          refine hK.out _ _ (HD.out.head) (fun hHeld => ?_)
          clear hK K
          try simp only [Act.put, List.setIfInBounds_toArray, List.set_cons_zero, List.set_cons_succ]
          refine wpAnyH_takeD (i := 6) (v := ?_) rfl (by kernel_rfl) (by kernel_rfl) (by kernel_rfl) (fun _ _ _ h => h) (Or.inl ⟨by rfl, ?_⟩) hHeld ?_
          rotate_left
          · rintro w hSw
            go_simp
            try with_reducible rfl
          try simp only [Act.put, List.setIfInBounds_toArray, List.set_cons_zero, List.set_cons_succ]
          refine wpAnyH_one (i := 9) rfl (by kernel_rfl) (fun K hK => ?_)
          go_simp
          refine (two_is c hc _).mono ?_
          rintro r v23 ⟨rfl, q⟩
          have HD := Lib.hid (HD.out.below q HD.out.lt)
          have BW : Hid (Below w.heap.size w v23) := Lib.hid (BW.out.trans (q.mono BW.out.size))
          clear q
          refine hK.out _ _ (HD.out.head) (fun hHeld => ?_)
          clear hK K
          try simp only [Act.put, List.setIfInBounds_toArray, List.set_cons_zero, List.set_cons_succ]
          refine wpAnyH_takeD (i := 10) (v := ?_) rfl (by kernel_rfl) (by kernel_rfl) (by kernel_rfl) (fun _ _ _ h => h) (Or.inl ⟨by rfl, ?_⟩) hHeld ?_
          rotate_left
          · rintro w hSw
            go_simp
            try with_reducible rfl
          try simp only [Act.put, List.setIfInBounds_toArray, List.set_cons_zero, List.set_cons_succ]
          refine wpAnyH_takeD (i := 16) (v := ?_) rfl (by kernel_rfl) (by kernel_rfl) (by kernel_rfl) (fun _ _ _ h => h) (Or.inl ⟨by rfl, ?_⟩) hHeld ?_
          rotate_left
          · rintro w hSw
            go_simp
            try with_reducible rfl
          try simp only [Act.put, List.setIfInBounds_toArray, List.set_cons_zero, List.set_cons_succ]
          refine wpAnyH_one (i := 19) rfl (by kernel_rfl) (fun K hK => ?_)
          go_simp
          refine (two_is e he _).mono ?_
          rintro r v24 ⟨rfl, q⟩
          have HD := Lib.hid (HD.out.below q HD.out.lt)
          have BW : Hid (Below w.heap.size w v24) := Lib.hid (BW.out.trans (q.mono BW.out.size))
          clear q
          refine hK.out _ _ (HD.out.head) (fun hHeld => ?_)
          clear hK K
          try simp only [Act.put, List.setIfInBounds_toArray, List.set_cons_zero, List.set_cons_succ]
          refine wpAnyH_takeD (i := 20) (v := ?_) rfl (by kernel_rfl) (by kernel_rfl) (by kernel_rfl) (fun _ _ _ h => h) (Or.inl ⟨by rfl, ?_⟩) hHeld ?_
          rotate_left
          · rintro w hSw
            go_simp
            try with_reducible rfl
          try simp only [Act.put, List.setIfInBounds_toArray, List.set_cons_zero, List.set_cons_succ]
          refine wpAnyH_takeD (i := 21) (v := ?_) rfl (by kernel_rfl) (by kernel_rfl) (by kernel_rfl) (fun _ _ _ h => h) (Or.inl ⟨by rfl, ?_⟩) hHeld ?_
          rotate_left
          · rintro w hSw
            go_simp
            try with_reducible rfl
          try simp only [Act.put, List.setIfInBounds_toArray, List.set_cons_zero, List.set_cons_succ]
          refine wpAnyH_done (by kernel_rfl) ?_ _
          refine NoPanic.normal ?_
          go_wp2_with fail
          go_meet
          case rel => exact ⟨rfl, BW⟩
    · go_simp
      generalize hx : World.alloc v0 _ = v25
      have HB : Hid (Blk v25 v0.heap.size [.int .u8 d] 5) := Lib.hid (by rw [← hx, HWD.out]; exact Blk.new v0 [.int .u8 d] _)
      have HD : Hid (Blk v25 w.heap.size (headC a b c d e) THead) := Lib.hid (by rw [← hx]; exact HD.out.alloc _)
      have BW : Hid (Below w.heap.size w v25) := Lib.hid (by rw [← hx]; exact BW.out.alloc BW.out.size _)
      have hcv := conv_byte HB.out 1
      rw [hDB] at hcv
      clear hx
      refine hK.out _ _ (HD.out.head) (fun hHeld => ?_)
      clear hK K
      try simp only [Act.put, List.setIfInBounds_toArray, List.set_cons_zero, List.set_cons_succ]
      refine wpAnyH_two (i := 2) (j := 15) rfl rfl (by kernel_rfl) (fun K hK => ?_) (fun K hK => ?_)
      · go_simp
        refine (two_is a ha _).mono ?_
        rintro r v26 ⟨rfl, q⟩
        have HD := Lib.hid (HD.out.below q HD.out.lt)
        have BW : Hid (Below w.heap.size w v26) := Lib.hid (BW.out.trans (q.mono BW.out.size))
        have HB := Lib.hid (HB.out.below q HB.out.lt)
        have hcv := conv_byte HB.out 1
        rw [hDB] at hcv
        clear q
        refine hK.out _ _ (HD.out.head) (fun hHeld => ?_)
        clear hK K
        try simp only [Act.put, List.setIfInBounds_toArray, List.set_cons_zero, List.set_cons_succ]
        refine wpAnyH_two (i := 5) (j := 15) rfl rfl (by kernel_rfl) (fun K hK => ?_) (fun K hK => ?_)
        · go_simp
          refine (two_is b hb _).mono ?_
          rintro r v27 ⟨rfl, q⟩
          have HD := Lib.hid (HD.out.below q HD.out.lt)
          have BW : Hid (Below w.heap.size w v27) := Lib.hid (BW.out.trans (q.mono BW.out.size))
          have HB := Lib.hid (HB.out.below q HB.out.lt)
          have hcv := conv_byte HB.out 1
          rw [hDB] at hcv
          clear q
          refine hK.out _ _ (HD.out.head) (fun hHeld => ?_)
          clear hK K
          try simp only [Act.put, List.setIfInBounds_toArray, List.set_cons_zero, List.set_cons_succ]
          refine wpAnyH_takeD (i := 6) (v := ?_) rfl (by kernel_rfl) (by kernel_rfl) (by kernel_rfl) (fun _ _ _ h => h) (Or.inl ⟨by rfl, ?_⟩) hHeld ?_
          rotate_left
          · rintro w hSw
            go_simp
            try with_reducible rfl
          try simp only [Act.put, List.setIfInBounds_toArray, List.set_cons_zero, List.set_cons_succ]
          refine wpAnyH_two (i := 9) (j := 15) rfl rfl (by kernel_rfl) (fun K hK => ?_) (fun K hK => ?_)
          · go_simp
            refine (two_is c hc _).mono ?_
            rintro r v28 ⟨rfl, q⟩
            have HD := Lib.hid (HD.out.below q HD.out.lt)
            have BW : Hid (Below w.heap.size w v28) := Lib.hid (BW.out.trans (q.mono BW.out.size))
            have HB := Lib.hid (HB.out.below q HB.out.lt)
            have hcv := conv_byte HB.out 1
            rw [hDB] at hcv
            clear q
            refine hK.out _ _ (HD.out.head) (fun hHeld => ?_)
            clear hK K
            try simp only [Act.put, List.setIfInBounds_toArray, List.set_cons_zero, List.set_cons_succ]
            refine wpAnyH_takeD (i := 10) (v := ?_) rfl (by kernel_rfl) (by kernel_rfl) (by kernel_rfl) (fun _ _ _ h => h) (Or.inl ⟨by rfl, ?_⟩) hHeld ?_
            rotate_left
            · rintro w hSw
              go_simp
              try with_reducible rfl
            try simp only [Act.put, List.setIfInBounds_toArray, List.set_cons_zero, List.set_cons_succ]
            refine wpAnyH_two (i := 15) (j := 19) rfl rfl (by kernel_rfl) (fun K hK => ?_) (fun K hK => ?_)
            · go_simp
              refine hK.out _ _ (HD.out.head) (fun hHeld => ?_)
              clear hK K
              try simp only [Act.put, List.setIfInBounds_toArray, List.set_cons_zero, List.set_cons_succ]
              refine wpAnyH_takeD (i := 16) (v := ?_) rfl (by kernel_rfl) (by kernel_rfl) (by kernel_rfl) (fun _ _ _ h => h) (Or.inl ⟨by rfl, ?_⟩) hHeld ?_
              rotate_left
              · rintro w hSw
                go_simp
                try with_reducible rfl
              try simp only [Act.put, List.setIfInBounds_toArray, List.set_cons_zero, List.set_cons_succ]
              refine wpAnyH_one (i := 19) rfl (by kernel_rfl) (fun K hK => ?_)
              go_simp
              refine (two_is e he _).mono ?_
              rintro r v29 ⟨rfl, q⟩
              have HD := Lib.hid (HD.out.below q HD.out.lt)
              have BW : Hid (Below w.heap.size w v29) := Lib.hid (BW.out.trans (q.mono BW.out.size))
              clear q
              refine hK.out _ _ (HD.out.head) (fun hHeld => ?_)
              clear hK K
              try simp only [Act.put, List.setIfInBounds_toArray, List.set_cons_zero, List.set_cons_succ]
              refine wpAnyH_takeD (i := 20) (v := ?_) rfl (by kernel_rfl) (by kernel_rfl) (by kernel_rfl) (fun _ _ _ h => h) (Or.inl ⟨by rfl, ?_⟩) hHeld ?_
              rotate_left
              · rintro w hSw
                go_simp
                try with_reducible rfl
              try simp only [Act.put, List.setIfInBounds_toArray, List.set_cons_zero, List.set_cons_succ]
              refine wpAnyH_takeD (i := 21) (v := ?_) rfl (by kernel_rfl) (by kernel_rfl) (by kernel_rfl) (fun _ _ _ h => h) (Or.inl ⟨by rfl, ?_⟩) hHeld ?_
              rotate_left
              · rintro w hSw
                go_simp
                try with_reducible rfl
              try simp only [Act.put, List.setIfInBounds_toArray, List.set_cons_zero, List.set_cons_succ]
              refine wpAnyH_done (by kernel_rfl) ?_ _
              refine NoPanic.normal ?_
              go_wp2_with fail
              go_meet
              case rel => exact ⟨rfl, BW⟩
            · go_simp
              refine (two_is e he _).mono ?_
              rintro r v30 ⟨rfl, q⟩
              have HD := Lib.hid (HD.out.below q HD.out.lt)
              have BW : Hid (Below w.heap.size w v30) := Lib.hid (BW.out.trans (q.mono BW.out.size))
              have HB := Lib.hid (HB.out.below q HB.out.lt)
              have hcv := conv_byte HB.out 1
              rw [hDB] at hcv
              clear q
              refine hK.out _ _ (HD.out.head) (fun hHeld => ?_)
              clear hK K
              try simp only [Act.put, List.setIfInBounds_toArray, List.set_cons_zero, List.set_cons_succ]
              refine wpAnyH_one (i := 15) rfl (by kernel_rfl) (fun K hK => ?_)
              go_simp
              refine hK.out _ _ (HD.out.head) (fun hHeld => ?_)
              clear hK K
              try simp only [Act.put, List.setIfInBounds_toArray, List.set_cons_zero, List.set_cons_succ]
              refine wpAnyH_takeD (i := 16) (v := ?_) rfl (by kernel_rfl) (by kernel_rfl) (by kernel_rfl) (fun _ _ _ h => h) (Or.inl ⟨by rfl, ?_⟩) hHeld ?_
              rotate_left
              · rintro w hSw
                go_simp
                try with_reducible rfl
              try simp only [Act.put, List.setIfInBounds_toArray, List.set_cons_zero, List.set_cons_succ]
              refine wpAnyH_takeD (i := 20) (v := ?_) rfl (by kernel_rfl) (by kernel_rfl) (by kernel_rfl) (fun _ _ _ h => h) (Or.inl ⟨by rfl, ?_⟩) hHeld ?_
              rotate_left
              · rintro w hSw
                go_simp
                try with_reducible rfl
              try simp only [Act.put, List.setIfInBounds_toArray, List.set_cons_zero, List.set_cons_succ]
              refine wpAnyH_takeD (i := 21) (v := ?_) rfl (by kernel_rfl) (by kernel_rfl) (by kernel_rfl) (fun _ _ _ h => h) (Or.inl ⟨by rfl, ?_⟩) hHeld ?_
              rotate_left
              · rintro w hSw
                go_simp
                try with_reducible rfl
              try simp only [Act.put, List.setIfInBounds_toArray, List.set_cons_zero, List.set_cons_succ]
              refine wpAnyH_done (by kernel_rfl) ?_ _
              refine NoPanic.normal ?_
              go_wp2_with fail
              go_meet
              case rel => exact ⟨rfl, BW⟩
          · go_simp
            refine hK.out _ _ (HD.out.head) (fun hHeld => ?_)
            clear hK K
            try simp only [Act.put, List.setIfInBounds_toArray, List.set_cons_zero, List.set_cons_succ]
            refine wpAnyH_one (i := 9) rfl (by kernel_rfl) (fun K hK => ?_)
            go_simp
            refine (two_is c hc _).mono ?_
            rintro r v31 ⟨rfl, q⟩
            have HD := Lib.hid (HD.out.below q HD.out.lt)
            have BW : Hid (Below w.heap.size w v31) := Lib.hid (BW.out.trans (q.mono BW.out.size))
            clear q
            refine hK.out _ _ (HD.out.head) (fun hHeld => ?_)
            clear hK K
            try simp only [Act.put, List.setIfInBounds_toArray, List.set_cons_zero, List.set_cons_succ]
            refine wpAnyH_takeD (i := 10) (v := ?_) rfl (by kernel_rfl) (by kernel_rfl) (by kernel_rfl) (fun _ _ _ h => h) (Or.inl ⟨by rfl, ?_⟩) hHeld ?_
            rotate_left
            · rintro w hSw
              go_simp
              try with_reducible rfl
            try simp only [Act.put, List.setIfInBounds_toArray, List.set_cons_zero, List.set_cons_succ]
            refine wpAnyH_takeD (i := 16) (v := ?_) rfl (by kernel_rfl) (by kernel_rfl) (by kernel_rfl) (fun _ _ _ h => h) (Or.inl ⟨by rfl, ?_⟩) hHeld ?_
            rotate_left
            · rintro w hSw
              go_simp
              try with_reducible rfl
            try simp only [Act.put, List.setIfInBounds_toArray, List.set_cons_zero, List.set_cons_succ]
            refine wpAnyH_one (i := 19) rfl (by kernel_rfl) (fun K hK => ?_)
            go_simp
            refine (two_is e he _).mono ?_
            rintro r v32 ⟨rfl, q⟩
            have HD := Lib.hid (HD.out.below q HD.out.lt)
            have BW : Hid (Below w.heap.size w v32) := Lib.hid (BW.out.trans (q.mono BW.out.size))
            clear q
            refine hK.out _ _ (HD.out.head) (fun hHeld => ?_)
            clear hK K
            try simp only [Act.put, List.setIfInBounds_toArray, List.set_cons_zero, List.set_cons_succ]
            refine wpAnyH_takeD (i := 20) (v := ?_) rfl (by kernel_rfl) (by kernel_rfl) (by kernel_rfl) (fun _ _ _ h => h) (Or.inl ⟨by rfl, ?_⟩) hHeld ?_
            rotate_left
            · rintro w hSw
              go_simp
              try with_reducible rfl
            try simp only [Act.put, List.setIfInBounds_toArray, List.set_cons_zero, List.set_cons_succ]
            refine wpAnyH_takeD (i := 21) (v := ?_) rfl (by kernel_rfl) (by kernel_rfl) (by kernel_rfl) (fun _ _ _ h => h) (Or.inl ⟨by rfl, ?_⟩) hHeld ?_
            rotate_left
            · rintro w hSw
              go_simp
              try with_reducible rfl
            try simp only [Act.put, List.setIfInBounds_toArray, List.set_cons_zero, List.set_cons_succ]
            refine wpAnyH_done (by kernel_rfl) ?_ _
            refine NoPanic.normal ?_
            go_wp2_with fail
            go_meet
            case rel => exact ⟨rfl, BW⟩
        · go_simp
          refine hK.out _ _ (HD.out.head) (fun hHeld => ?_)
          clear hK K
          try simp only [Act.put, List.setIfInBounds_toArray, List.set_cons_zero, List.set_cons_succ]
          refine wpAnyH_one (i := 5) rfl (by kernel_rfl) (fun K hK => ?_)
          go_simp
          refine (two_is b hb _).mono ?_
          rintro r v33 ⟨rfl, q⟩
          have HD := Lib.hid (HD.out.below q HD.out.lt)
          have BW : Hid (Below w.heap.size w v33) := Lib.hid (BW.out.trans (q.mono BW.out.size))
          clear q
          refine hK.out _ _ (HD.out.head) (fun hHeld => ?_)
          clear hK K
          try simp only [Act.put, List.setIfInBounds_toArray, List.set_cons_zero, List.set_cons_succ]
          refine wpAnyH_takeD (i := 6) (v := ?_) rfl (by kernel_rfl) (by kernel_rfl) (by kernel_rfl) (fun _ _ _ h => h) (Or.inl ⟨by rfl, ?_⟩) hHeld ?_
          rotate_left
          · rintro w hSw
            go_simp
            try with_reducible rfl
          try simp only [Act.put, List.setIfInBounds_toArray, List.set_cons_zero, List.set_cons_succ]
          refine wpAnyH_one (i := 9) rfl (by kernel_rfl) (fun K hK => ?_)
          go_simp
          refine (two_is c hc _).mono ?_
          rintro r v34 ⟨rfl, q⟩
          have HD := Lib.hid (HD.out.below q HD.out.lt)
          have BW : Hid (Below w.heap.size w v34) := Lib.hid (BW.out.trans (q.mono BW.out.size))
          clear q
          refine hK.out _ _ (HD.out.head) (fun hHeld => ?_)
          clear hK K
          try simp only [Act.put, List.setIfInBounds_toArray, List.set_cons_zero, List.set_cons_succ]
          refine wpAnyH_takeD (i := 10) (v := ?_) rfl (by kernel_rfl) (by kernel_rfl) (by kernel_rfl) (fun _ _ _ h => h) (Or.inl ⟨by rfl, ?_⟩) hHeld ?_
          rotate_left
          · rintro w hSw
            go_simp
            try with_reducible rfl
          try simp only [Act.put, List.setIfInBounds_toArray, List.set_cons_zero, List.set_cons_succ]
          refine wpAnyH_takeD (i := 16) (v := ?_) rfl (by kernel_rfl) (by kernel_rfl) (by kernel_rfl) (fun _ _ _ h => h) (Or.inl ⟨by rfl, ?_⟩) hHeld ?_
          rotate_left
          · rintro w hSw
            go_simp
            try with_reducible rfl
          try simp only [Act.put, List.setIfInBounds_toArray, List.set_cons_zero, List.set_cons_succ]
          refine wpAnyH_one (i := 19) rfl (by kernel_rfl) (fun K hK => ?_)
          go_simp
          refine (two_is e he _).mono ?_
          rintro r v35 ⟨rfl, q⟩
          have HD := Lib.hid (HD.out.below q HD.out.lt)
          have BW : Hid (Below w.heap.size w v35) := Lib.hid (BW.out.trans (q.mono BW.out.size))
          clear q
          refine hK.out _ _ (HD.out.head) (fun hHeld => ?_)
          clear hK K
          try simp only [Act.put, List.setIfInBounds_toArray, List.set_cons_zero, List.set_cons_succ]
          refine wpAnyH_takeD (i := 20) (v := ?_) rfl (by kernel_rfl) (by kernel_rfl) (by kernel_rfl) (fun _ _ _ h => h) (Or.inl ⟨by rfl, ?_⟩) hHeld ?_
          rotate_left
          · rintro w hSw
            go_simp
            try with_reducible rfl
          try simp only [Act.put, List.setIfInBounds_toArray, List.set_cons_zero, List.set_cons_succ]
          refine wpAnyH_takeD (i := 21) (v := ?_) rfl (by kernel_rfl) (by kernel_rfl) (by kernel_rfl) (fun _ _ _ h => h) (Or.inl ⟨by rfl, ?_⟩) hHeld ?_
          rotate_left
          · rintro w hSw
            go_simp
            try with_reducible rfl
          try simp only [Act.put, List.setIfInBounds_toArray, List.set_cons_zero, List.set_cons_succ]
          refine wpAnyH_done (by kernel_rfl) ?_ _
          refine NoPanic.normal ?_
          go_wp2_with fail
          go_meet
          case rel => exact ⟨rfl, BW⟩
      · go_simp
        refine hK.out _ _ (HD.out.head) (fun hHeld => ?_)
        clear hK K
        try simp only [Act.put, List.setIfInBounds_toArray, List.set_cons_zero, List.set_cons_succ]
        refine wpAnyH_one (i := 2) rfl (by kernel_rfl) (fun K hK => ?_)
        go_simp
        refine (two_is a ha _).mono ?_
        rintro r v36 ⟨rfl, q⟩
        have HD := Lib.hid (HD.out.below q HD.out.lt)
        have BW : Hid (Below w.heap.size w v36) := Lib.hid (BW.out.trans (q.mono BW.out.size))
        clear q
        refine hK.out _ _ (HD.out.head) (fun hHeld => ?_)
        clear hK K
        try simp only [Act.put, List.setIfInBounds_toArray, List.set_cons_zero, List.set_cons_succ]
        refine wpAnyH_one (i := 5) rfl (by kernel_rfl) (fun K hK => ?_)
        go_simp
        refine (two_is b hb _).mono ?_
        rintro r v37 ⟨rfl, q⟩
        have HD := Lib.hid (HD.out.below q HD.out.lt)
        have BW : Hid (Below w.heap.size w v37) := Lib.hid (BW.out.trans (q.mono BW.out.size))
        clear q
        refine hK.out _ _ (HD.out.head) (fun hHeld => ?_)
        clear hK K
        try simp only [Act.put, List.setIfInBounds_toArray, List.set_cons_zero, List.set_cons_succ]
        refine wpAnyH_takeD (i := 6) (v := ?_) rfl (by kernel_rfl) (by kernel_rfl) (by kernel_rfl) (fun _ _ _ h => h) (Or.inl ⟨by rfl, ?_⟩) hHeld ?_
        rotate_left
        · rintro w hSw
          go_simp
          try with_reducible rfl
        try simp only [Act.put, List.setIfInBounds_toArray, List.set_cons_zero, List.set_cons_succ]
        refine wpAnyH_one (i := 9) rfl (by kernel_rfl) (fun K hK => ?_)
        go_simp
        refine (two_is c hc _).mono ?_
        rintro r v38 ⟨rfl, q⟩
        have HD := Lib.hid (HD.out.below q HD.out.lt)
        have BW : Hid (Below w.heap.size w v38) := Lib.hid (BW.out.trans (q.mono BW.out.size))
        clear q
        refine hK.out _ _ (HD.out.head) (fun hHeld => ?_)
        clear hK K
        try simp only [Act.put, List.setIfInBounds_toArray, List.set_cons_zero, List.set_cons_succ]
        refine wpAnyH_takeD (i := 10) (v := ?_) rfl (by kernel_rfl) (by kernel_rfl) (by kernel_rfl) (fun _ _ _ h => h) (Or.inl ⟨by rfl, ?_⟩) hHeld ?_
        rotate_left
        · rintro w hSw
          go_simp
          try with_reducible rfl
        try simp only [Act.put, List.setIfInBounds_toArray, List.set_cons_zero, List.set_cons_succ]
        refine wpAnyH_takeD (i := 16) (v := ?_) rfl (by kernel_rfl) (by kernel_rfl) (by kernel_rfl) (fun _ _ _ h => h) (Or.inl ⟨by rfl, ?_⟩) hHeld ?_
        rotate_left
        · rintro w hSw
          go_simp
          try with_reducible rfl
        try simp only [Act.put, List.setIfInBounds_toArray, List.set_cons_zero, List.set_cons_succ]
        refine wpAnyH_one (i := 19) rfl (by kernel_rfl) (fun K hK => ?_)
        go_simp
        refine (two_is e he _).mono ?_
        rintro r v39 ⟨rfl, q⟩
        have HD := Lib.hid (HD.out.below q HD.out.lt)
        have BW : Hid (Below w.heap.size w v39) := Lib.hid (BW.out.trans (q.mono BW.out.size))
        clear q
        refine hK.out _ _ (HD.out.head) (fun hHeld => ?_)
        clear hK K
        try simp only [Act.put, List.setIfInBounds_toArray, List.set_cons_zero, List.set_cons_succ]
        refine wpAnyH_takeD (i := 20) (v := ?_) rfl (by kernel_rfl) (by kernel_rfl) (by kernel_rfl) (fun _ _ _ h => h) (Or.inl ⟨by rfl, ?_⟩) hHeld ?_
        rotate_left
        · rintro w hSw
          go_simp
          try with_reducible rfl
        try simp only [Act.put, List.setIfInBounds_toArray, List.set_cons_zero, List.set_cons_succ]
        refine wpAnyH_takeD (i := 21) (v := ?_) rfl (by kernel_rfl) (by kernel_rfl) (by kernel_rfl) (fun _ _ _ h => h) (Or.inl ⟨by rfl, ?_⟩) hHeld ?_
        rotate_left
        · rintro w hSw
          go_simp
          try with_reducible rfl
        try simp only [Act.put, List.setIfInBounds_toArray, List.set_cons_zero, List.set_cons_succ]
        refine wpAnyH_done (by kernel_rfl) ?_ _
        refine NoPanic.normal ?_
        go_wp2_with fail
        go_meet
        case rel => exact ⟨rfl, BW⟩
  case rest =>
    obtain ⟨rfl, BW⟩ := hcut
    clear B1 b0 hT2 hT3 hT4 hT5 z1 z2 z3 z4 hTA hTB hTC hTE hDB
    have hcr := crcL_lt (headL a b c d e)
    obtain ⟨k, hk⟩ : ∃ k, crcL (headL a b c d e) = k := ⟨_, rfl⟩
    rw [hk] at hcr
    have HC := Lib.hid hk
    clear hk
    have h9 : T5.size = 9 := by rw [h5.out]; rfl
    have h10 : T5.size + 1 = 10 := by omega
    have hsum : Hid (crcL T5.data.toList = k) := Lib.hid (by rw [h5.out]; exact HC.out)
    have hcv2 := conv_one wc k 1
    have hrb : T5 ++ ⟨#[UInt8.ofNat k]⟩ = headB a b c d e := by
      rw [h5.out]
      apply ByteArray.ext
      rw [headB, HC.out]
      simp [headS]
    rw [Int.toNat_natCast] at hcv2
    go_wp2_with fail
    refine (refsum T5 _ (by rw [h9]; decide)).mono ?_
    rintro r _ ⟨rfl, rfl⟩
    rw [hsum.out]
    go_wp2_with fail
    go_returns
    exact ⟨rfl, BW.out.alloc BW.out.size _⟩

theorem rencode_spec (a b c d e : Int) (w : World) : Calls Try.prog 14 #[headV a b c d e] w fun r w' => r = .returned (.tuple #[.string (hencode a b c d e).1, .int .i64 (hencode a b c d e).2]) ∧ Below w.heap.size w w' := by
  by_cases h : headE a b c d e = 0
  · obtain ⟨A, B, C, D, E, rfl, rfl, rfl, rfl, rfl, h0, h1, h2, h3, h4⟩ := head_nat h
    rw [hencode_nat A B C D E h]
    exact rencode_is A B C D E h0 h1 h2 h3 h4 w
  · unfold hencode
    rw [if_neg h]
    exact rencode_no a b c d e h w
theorem rencE (a b c d e : Int) (s : ByteArray) (k : Int) (h : Hid (hencode a b c d e = (s, k))) (w : World) : Calls Try.prog 14 #[headV a b c d e] w fun r w' => r = .returned (.tuple #[.string s, .int .i64 k]) ∧ Below w.heap.size w w' := by
  have := rencode_spec a b c d e w
  rw [h.out] at this
  exact this

end Go.Proofs.Ytdipbdoekmcgbaa
