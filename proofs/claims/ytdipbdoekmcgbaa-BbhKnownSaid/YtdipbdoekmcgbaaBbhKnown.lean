/-
  BbhKnown: the walk. (Printed by mkbk.py.)
-/
import Derived.Test.YtdipbdoekmcgbaaBbhTurned
namespace Go.Proofs.Ytdipbdoekmcgbaa
open Go.RowKit

abbrev KL : List Value := [.int .i64 0, .int .i64 0, .int .i64 0, .int .i64 0, .int .i64 0, .int .i64 0, .int .i64 0, .int .i64 58112, .int .i64 0, .int .i64 0, .int .i64 65535, .int .i64 65535, .int .i64 0, .int .i64 255, .int .i64 65535, .int .i64 0, .int .i64 0, .int .i64 58113, .int .i64 0, .int .i64 0, .int .i64 0, .int .i64 0, .int .i64 0, .int .i64 256, .int .i64 0, .int .i64 0, .int .i64 (-1), .int .i64 0, .int .i64 0, .int .i64 0, .int .i64 65536, .int .i64 0, .int .i64 0, .int .i64 0, .int .i64 0, .int .i64 0, .int .i64 0, .int .i64 0, .int .i64 0, .int .i64 65536, .int .i64 0, .int .i64 0, .int .i64 (-1), .int .i64 0, .int .i64 0, .int .i64 0, .int .i64 0, .int .i64 0, .int .i64 (-1), .int .i64 0, .int .i64 0, .int .i64 0, .int .i64 0, .int .i64 0, .int .i64 (-1), .int .i64 (-1), .int .i64 0, .int .i64 0, .int .i64 0, .int .i64 0, .int .i64 0, .int .i64 65536, .int .i64 0, .int .i64 0, .int .i64 0]
theorem row_facts {v : World} {B : Nat} {T : TypeId} (X : Blk v B KL T) : ∀ {k : Nat}, k < 13 → ∃ a b c d e : Int, v.cell? ⟨B, k * 5, none⟩ = some (.int .i64 a) ∧ v.cell? ⟨B, k * 5 + 1, none⟩ = some (.int .i64 b) ∧ v.cell? ⟨B, k * 5 + 2, none⟩ = some (.int .i64 c) ∧ v.cell? ⟨B, k * 5 + 3, none⟩ = some (.int .i64 d) ∧ v.cell? ⟨B, k * 5 + 4, none⟩ = some (.int .i64 e) ∧ headE a b c d e = if 2 < k then 2 else 0
  | 0, _ => ⟨0, 0, 0, 0, 0, X.cell 0 rfl, X.cell 1 rfl, X.cell 2 rfl, X.cell 3 rfl, X.cell 4 rfl, by decide⟩
  | 1, _ => ⟨0, 0, 58112, 0, 0, X.cell 5 rfl, X.cell 6 rfl, X.cell 7 rfl, X.cell 8 rfl, X.cell 9 rfl, by decide⟩
  | 2, _ => ⟨65535, 65535, 0, 255, 65535, X.cell 10 rfl, X.cell 11 rfl, X.cell 12 rfl, X.cell 13 rfl, X.cell 14 rfl, by decide⟩
  | 3, _ => ⟨0, 0, 58113, 0, 0, X.cell 15 rfl, X.cell 16 rfl, X.cell 17 rfl, X.cell 18 rfl, X.cell 19 rfl, by decide⟩
  | 4, _ => ⟨0, 0, 0, 256, 0, X.cell 20 rfl, X.cell 21 rfl, X.cell 22 rfl, X.cell 23 rfl, X.cell 24 rfl, by decide⟩
  | 5, _ => ⟨0, (-1), 0, 0, 0, X.cell 25 rfl, X.cell 26 rfl, X.cell 27 rfl, X.cell 28 rfl, X.cell 29 rfl, by decide⟩
  | 6, _ => ⟨65536, 0, 0, 0, 0, X.cell 30 rfl, X.cell 31 rfl, X.cell 32 rfl, X.cell 33 rfl, X.cell 34 rfl, by decide⟩
  | 7, _ => ⟨0, 0, 0, 0, 65536, X.cell 35 rfl, X.cell 36 rfl, X.cell 37 rfl, X.cell 38 rfl, X.cell 39 rfl, by decide⟩
  | 8, _ => ⟨0, 0, (-1), 0, 0, X.cell 40 rfl, X.cell 41 rfl, X.cell 42 rfl, X.cell 43 rfl, X.cell 44 rfl, by decide⟩
  | 9, _ => ⟨0, 0, 0, (-1), 0, X.cell 45 rfl, X.cell 46 rfl, X.cell 47 rfl, X.cell 48 rfl, X.cell 49 rfl, by decide⟩
  | 10, _ => ⟨0, 0, 0, 0, (-1), X.cell 50 rfl, X.cell 51 rfl, X.cell 52 rfl, X.cell 53 rfl, X.cell 54 rfl, by decide⟩
  | 11, _ => ⟨(-1), 0, 0, 0, 0, X.cell 55 rfl, X.cell 56 rfl, X.cell 57 rfl, X.cell 58 rfl, X.cell 59 rfl, by decide⟩
  | 12, _ => ⟨0, 65536, 0, 0, 0, X.cell 60 rfl, X.cell 61 rfl, X.cell 62 rfl, X.cell 63 rfl, X.cell 64 rfl, by decide⟩

abbrev zeroHead : Obj := .cells #[.int .i64 0, .int .i64 0, .int .i64 0, .int .i64 0, .int .i64 0] THead
def Zeroed5 (w : World) (b : Nat) : Prop :=
  (w.cell? ⟨b, 0, none⟩ = some (.int .i64 0) ∧ w.cell? ⟨b, 1, none⟩ = some (.int .i64 0) ∧ w.cell? ⟨b, 2, none⟩ = some (.int .i64 0) ∧ w.cell? ⟨b, 3, none⟩ = some (.int .i64 0) ∧ w.cell? ⟨b, 4, none⟩ = some (.int .i64 0)) ∧
  w.frozen? ⟨b, 0, none⟩ = false ∧ w.frozen? ⟨b, 1, none⟩ = false ∧ w.frozen? ⟨b, 2, none⟩ = false ∧ w.frozen? ⟨b, 3, none⟩ = false ∧ w.frozen? ⟨b, 4, none⟩ = false
theorem z5_kept {W w : World} {b : Nat} (h : Blk W b (headC 0 0 0 0 0) THead) (k : Below W.heap.size W w) : Zeroed5 w b := by
  have h' := h.below k h.lt
  exact ⟨⟨h'.cell 0 rfl, h'.cell 1 rfl, h'.cell 2 rfl, h'.cell 3 rfl, h'.cell 4 rfl⟩, h'.free 0, h'.free 1, h'.free 2, h'.free 3, h'.free 4⟩
theorem z5_early {v w : World} {o : Obj} (k : Below ((v.alloc zeroHead).alloc o).drew.heap.size ((v.alloc zeroHead).alloc o).drew w) : Zeroed5 w v.heap.size := z5_kept ((Blk.new v (headC 0 0 0 0 0) THead).alloc o).drew k
theorem z5_late {v w : World} {o : Obj} (k : Below ((v.alloc o).alloc zeroHead).drew.heap.size ((v.alloc o).alloc zeroHead).drew w) : Zeroed5 w (v.heap.size + 1) := by
  have := z5_kept (Blk.new (v.alloc o) (headC 0 0 0 0 0) THead).drew k
  rw [World.size_alloc] at this
  exact this
theorem b_one {w w4 w5 : World} {o : Obj} (h : Below w.heap.size w w4) (k : Below (w4.alloc o).drew.heap.size (w4.alloc o).drew w5) : Below w.heap.size w w5 :=
  (h.alloc h.size o).drew.trans (k.mono (h.alloc h.size o).drew.size)
theorem b_two {w w4 w5 : World} {o o' : Obj} (h : Below w.heap.size w w4) (k : Below ((w4.alloc o).alloc o').drew.heap.size ((w4.alloc o).alloc o').drew w5) : Below w.heap.size w w5 :=
  ((h.alloc h.size o).alloc (h.alloc h.size o).size o').drew.trans (k.mono ((h.alloc h.size o).alloc (h.alloc h.size o).size o').drew.size)

set_option maxRecDepth 100000 in
set_option maxHeartbeats 1600000 in
theorem bbhKnown_walk (w : World) : Calls Try.prog 7 #[] w fun r w' => r = .returned (.bool true) ∧ Below w.heap.size w w' := by
  obtain ⟨w1, hw1⟩ : ∃ w1, w.alloc (.cells #[.int .i64 0, .int .i64 0, .int .i64 0, .int .i64 0, .int .i64 0, .int .i64 0, .int .i64 0, .int .i64 58112, .int .i64 0, .int .i64 0, .int .i64 65535, .int .i64 65535, .int .i64 0, .int .i64 255, .int .i64 65535, .int .i64 0, .int .i64 0, .int .i64 58113, .int .i64 0, .int .i64 0, .int .i64 0, .int .i64 0, .int .i64 0, .int .i64 256, .int .i64 0, .int .i64 0, .int .i64 (-1), .int .i64 0, .int .i64 0, .int .i64 0, .int .i64 65536, .int .i64 0, .int .i64 0, .int .i64 0, .int .i64 0, .int .i64 0, .int .i64 0, .int .i64 0, .int .i64 0, .int .i64 65536, .int .i64 0, .int .i64 0, .int .i64 (-1), .int .i64 0, .int .i64 0, .int .i64 0, .int .i64 0, .int .i64 0, .int .i64 (-1), .int .i64 0, .int .i64 0, .int .i64 0, .int .i64 0, .int .i64 0, .int .i64 (-1), .int .i64 (-1), .int .i64 0, .int .i64 0, .int .i64 0, .int .i64 0, .int .i64 0, .int .i64 65536, .int .i64 0, .int .i64 0, .int .i64 0] THead) = w1 := ⟨_, rfl⟩
  have G1 : Hid (Blk w1 w.heap.size KL THead) := Lib.hid (by rw [← hw1]; exact Blk.new w KL THead)
  have b1 : Hid (Below w.heap.size w w1) := Lib.hid (by rw [← hw1]; exact (Below.refl _ _).alloc (Nat.le_refl _) _)
  go_enter Try.func7, Try.ntmps7
  go_wp2_with fail
  clear hw1
  go_loopw [33] (fun i wr => ∃ k : Nat, k ≤ 13 ∧ i = .int .i64 k ∧ Hid (Blk wr w.heap.size KL THead) ∧ Hid (Below w.heap.size w wr)) (fun i _ => 13 - (intOf i).toNat)
  case atStart => exact ⟨0, by omega, rfl, G1, b1⟩
  case round =>
    obtain ⟨k, hk, rfl, G, bel⟩ := hrel
    clear G1 b1
    by_cases hk13 : k < 13
    · obtain ⟨a, b, c, d, e, c0, c1, c2, c3, c4, hE⟩ := row_facts G.out hk13
      have hki : (k : Int) < 13 := by omega
      obtain ⟨S, kk, hS⟩ : ∃ S kk, hencode a b c d e = (S, kk) := ⟨_, _, rfl⟩
      have hkk : headE a b c d e = kk := by rw [← hencode_err, hS]
      have HS := Lib.hid hS
      have HK := Lib.hid hkk
      by_cases h2 : 2 < k
      · rw [if_pos h2] at hE
        have h2i : (2 : Int) < k := by omega
        obtain rfl : kk = 2 := by rw [← hkk, hE]
        have hSe : S = ⟨#[]⟩ := by
          have a1 := hS
          unfold hencode at a1
          rw [if_neg (by rw [hE]; decide)] at a1
          injection a1 with a1 _
          exact a1.symm
        subst hSe
        clear hS hkk hE
        go_wp2_with fail
        refine (hencE a b c d e ⟨#[]⟩ 2 HS _).mono ?_
        rintro r w2 ⟨rfl, q2⟩
        have H2 := Lib.hid ((Blk.new wr (headC a b c d e) THead).below q2 (by simp))
        have G2 := Lib.hid ((G.out.alloc (.cells #[.int .i64 a, .int .i64 b, .int .i64 c, .int .i64 d, .int .i64 e] THead)).below q2 (G.out.alloc _).lt)
        have b2 : Hid (Below w.heap.size w w2) := Lib.hid ((bel.out.alloc bel.out.size _).trans (q2.mono (bel.out.alloc bel.out.size _).size))
        have d0 := H2.out.cell 0 rfl
        have d1 := H2.out.cell 1 rfl
        have d2 := H2.out.cell 2 rfl
        have d3 := H2.out.cell 3 rfl
        have d4 := H2.out.cell 4 rfl
        clear q2 c0 c1 c2 c3 c4
        go_wp2_with fail
        refine (hchkE a b c d e 2 HK _).mono ?_
        rintro r w3 ⟨rfl, q3⟩
        clear d0 d1 d2 d3 d4
        go_wp2_with fail
        exact ⟨⟨k + 1, by omega, by go_num, Lib.hid (G2.out.below q3 G2.out.lt), Lib.hid (b2.out.trans (q3.mono b2.out.size))⟩, by simp [intOf]; omega⟩
      · rw [if_neg h2] at hE
        have h2i : (k : Int) ≤ 2 := by omega
        obtain rfl : kk = 0 := by rw [← hkk, hE]
        have hsn := (hdec_of hE hS).2
        have hsl : (S.toList == []) = false := by
          rw [ByteArray.toList_eq]
          rw [← len_bytes] at hsn
          cases hl : S.data.toList with
          | nil => rw [hl] at hsn; simp at hsn
          | cons x l => rfl
        clear hS hkk hE hsn
        go_wp2_with fail
        refine (hencE a b c d e S 0 HS _).mono ?_
        rintro r w2 ⟨rfl, q2⟩
        have H2 := Lib.hid ((Blk.new wr (headC a b c d e) THead).below q2 (by simp))
        have G2 := Lib.hid ((G.out.alloc (.cells #[.int .i64 a, .int .i64 b, .int .i64 c, .int .i64 d, .int .i64 e] THead)).below q2 (G.out.alloc _).lt)
        have b2 : Hid (Below w.heap.size w w2) := Lib.hid ((bel.out.alloc bel.out.size _).trans (q2.mono (bel.out.alloc bel.out.size _).size))
        have d0 := H2.out.cell 0 rfl
        have d1 := H2.out.cell 1 rfl
        have d2 := H2.out.cell 2 rfl
        have d3 := H2.out.cell 3 rfl
        have d4 := H2.out.cell 4 rfl
        clear q2 c0 c1 c2 c3 c4
        go_wp2_with fail
        refine (hchkE a b c d e 0 HK _).mono ?_
        rintro r w3 ⟨rfl, q3⟩
        clear d0 d1 d2 d3 d4
        go_wp2_with fail
        exact ⟨⟨k + 1, by omega, by go_num, Lib.hid (G2.out.below q3 G2.out.lt), Lib.hid (b2.out.trans (q3.mono b2.out.size))⟩, by simp [intOf]; omega⟩
    · clear G
      obtain ⟨S, hS⟩ : ∃ S : ByteArray, S = ⟨#[0, 0, 0, 0, 11, 176, 0, 0, 0, 232]⟩ := ⟨_, rfl⟩
      obtain ⟨Z, hZ⟩ : ∃ S : ByteArray, S = ⟨#[0, 0, 0, 0, 0, 0, 0, 0, 0, 0]⟩ := ⟨_, rfl⟩
      obtain ⟨S9, hS9⟩ : ∃ T : ByteArray, T = ⟨#[0, 0, 0, 0, 11, 176, 0, 0, 0]⟩ := ⟨_, rfl⟩
      obtain ⟨Sx, hSx⟩ : ∃ T : ByteArray, S ++ ⟨#[120]⟩ = T := ⟨_, rfl⟩
      obtain ⟨CB, hCB⟩ : ∃ S : ByteArray, S = ⟨#[UInt8.ofNat 233]⟩ := ⟨_, rfl⟩
      have hsn : S.size = 10 := by rw [hS]; rfl
      have hsz : (S.size : Int) = 10 := by omega
      have h99 : (9 : Int) ≤ S.size := by omega
      have h9l : (9 : Int) < S.size := by omega
      have h9n : 9 < S.size := by omega
      have hen : Hid (hencode 0 0 2992 0 0 = (S, 0)) := Lib.hid (by rw [hS]; decide +kernel)
      have hez : Hid (hencode 0 0 0 0 0 = (Z, 0)) := Lib.hid (by rw [hZ]; decide +kernel)
      have e9 : S.extract 0 9 = S9 := by rw [hS, hS9]; decide +kernel
      have i9 : (S[9]'(by omega)).toNat = 232 := by subst hS; rfl
      have hd9 : Hid (hdecode S9 = (headV 0 0 0 0 0, 4)) := Lib.hid (by rw [hS9]; rfl)
      have hdx : Hid (hdecode Sx = (headV 0 0 0 0 0, 4)) := Lib.hid (by rw [← hSx, hS]; rfl)
      have hdc : Hid (hdecode (S9 ++ CB) = (headV 0 0 0 0 0, 10)) := Lib.hid (by rw [hS9, hCB]; rfl)
      have hde : Hid (hdecode ⟨#[]⟩ = (headV 0 0 0 0 0, 4)) := Lib.hid rfl
      have hcat : S.size + 1 = 11 := by omega
      have hcat2 : S9.size + CB.size = 10 := by rw [hS9, hCB]; rfl
      have hxor : bits BinOp.xor IntKind.u8 232 1 = 233 := by kernel_rfl
      have hzz : Z.data.toList = List.replicate 10 0 := by rw [hZ]; rfl
      have hmk := fun v => make_run v 10 (by decide)
      have hms := fun v => string_run_as (makeW_is v 10) (n := 10) 10 (by simp) hzz
      have k1 : ∀ (v : World) (o : Obj), (convert 32 9 (.slice (some ⟨v.heap.size + 1, 0, none⟩) 1 1)).run Try.prog ((v.alloc o).alloc (.cells #[.int .u8 233] 5)).drew = .ok (.string CB) ((v.alloc o).alloc (.cells #[.int .u8 233] 5)).drew := fun v o => by
        have := conv_byte (w := ((v.alloc o).alloc (.cells #[.int .u8 ((233 : Nat) : Int)] 5)).drew) (Blk.new (v.alloc o) [.int .u8 ((233 : Nat) : Int)] _).drew 1
        rw [World.size_alloc, ← hCB] at this
        exact this
      have k2 : ∀ (v : World) (o : Obj), (convert 32 9 (.slice (some ⟨v.heap.size, 0, none⟩) 1 1)).run Try.prog ((v.alloc (.cells #[.int .u8 233] 5)).alloc o).drew = .ok (.string CB) ((v.alloc (.cells #[.int .u8 233] 5)).alloc o).drew := fun v o => by
        have := conv_byte (w := ((v.alloc (.cells #[.int .u8 ((233 : Nat) : Int)] 5)).alloc o).drew) ((Blk.new v [.int .u8 ((233 : Nat) : Int)] _).alloc o).drew 1
        rw [← hCB] at this
        exact this
      have k3 : ∀ (v : World), (convert 32 9 (.slice (some ⟨v.heap.size, 0, none⟩) 1 1)).run Try.prog (v.alloc (.cells #[.int .u8 233] 5)).drew = .ok (.string CB) (v.alloc (.cells #[.int .u8 233] 5)).drew := fun v => by
        have := conv_byte (w := (v.alloc (.cells #[.int .u8 ((233 : Nat) : Int)] 5)).drew) (Blk.new v [.int .u8 ((233 : Nat) : Int)] _).drew 1
        rw [← hCB] at this
        exact this
      clear hS hZ hS9 hCB
      go_wp2_with fail
      refine (hencE 0 0 2992 0 0 S 0 hen _).mono ?_
      rintro r w2 ⟨rfl, q2⟩
      have b2 : Hid (Below w.heap.size w w2) := Lib.hid (bel.out.trans (q2.mono bel.out.size))
      clear q2 bel
      go_wp2_with fail
      refine (hdecE S9 _ 4 hd9 _).mono ?_
      rintro r w3 ⟨rfl, q3⟩
      have b3 : Hid (Below w.heap.size w w3) := Lib.hid (b2.out.trans (q3.mono b2.out.size))
      clear q3 b2
      go_wp2_with fail
      refine (hdecE Sx _ 4 hdx _).mono ?_
      rintro r w5 ⟨rfl, q5⟩
      have b5' : Hid (Below w.heap.size w w5) := Lib.hid ((b3.out.alloc b3.out.size _).trans (q5.mono (b3.out.alloc b3.out.size _).size))
      clear q5 b3
      go_upto_region 16 with fail
      generalize hw4 : w5.alloc _ = w4
      have b4 : Hid (Below w.heap.size w w4) := Lib.hid (by rw [← hw4]; exact b5'.out.alloc b5'.out.size _)
      clear hw4 b5'
      go_cut [12, 13] (fun p g wx => g = .int .i64 10 ∧ Hid (Below w.heap.size w wx))
      case first =>
        refine wp_region_noPanic ?_
        refine wp_region_held_drew (S := (fun _ => True)) (by kernel_rfl) (trivial) (fun hHeld => ?_)
        refine wpAnyH_takeD (i := 0) (v := ?_) rfl (by kernel_rfl) (by kernel_rfl) (by kernel_rfl) (fun _ _ _ h => h) (Or.inl ⟨by rfl, ?_⟩) hHeld ?_
        rotate_left
        · rintro w hSw
          go_simp
          try with_reducible rfl
        try simp only [Act.put, List.setIfInBounds_toArray, List.set_cons_zero, List.set_cons_succ]
        refine wpAnyH_takeD (i := 1) (v := ?_) rfl (by kernel_rfl) (by kernel_rfl) (by kernel_rfl) (fun _ _ _ h => h) (Or.inl ⟨by rfl, ?_⟩) hHeld ?_
        rotate_left
        · rintro w hSw
          go_simp
          try with_reducible rfl
        try simp only [Act.put, List.setIfInBounds_toArray, List.set_cons_zero, List.set_cons_succ]
        refine wpAnyH_takeD (i := 2) (v := ?_) rfl (by kernel_rfl) (by kernel_rfl) (by kernel_rfl) (fun _ _ _ h => h) (Or.inl ⟨by rfl, ?_⟩) hHeld ?_
        rotate_left
        · rintro w hSw
          go_simp
          try with_reducible rfl
        try simp only [Act.put, List.setIfInBounds_toArray, List.set_cons_zero, List.set_cons_succ]
        refine wpAnyH_takeD (i := 3) (v := ?_) rfl (by kernel_rfl) (by kernel_rfl) (by kernel_rfl) (fun _ _ _ h => h) (Or.inl ⟨by rfl, ?_⟩) hHeld ?_
        rotate_left
        · rintro w hSw
          go_simp
          try with_reducible rfl
        try simp only [Act.put, List.setIfInBounds_toArray, List.set_cons_zero, List.set_cons_succ]
        refine wpAnyH_takeD (i := 4) (v := ?_) rfl (by kernel_rfl) (by kernel_rfl) (by kernel_rfl) (fun _ _ _ h => h) (Or.inl ⟨by rfl, ?_⟩) hHeld ?_
        rotate_left
        · rintro w hSw
          go_simp
          try with_reducible rfl
        try simp only [Act.put, List.setIfInBounds_toArray, List.set_cons_zero, List.set_cons_succ]
        refine wpAnyH_two (i := 5) (j := 12) rfl rfl (by kernel_rfl) (fun K hK => ?_) (fun K hK => ?_)
        · go_simp
          refine hK.out _ _ trivial (fun hHeld => ?_)
          clear hK K
          try simp only [Act.put, List.setIfInBounds_toArray, List.set_cons_zero, List.set_cons_succ]
          refine wpAnyH_two (i := 6) (j := 12) rfl rfl (by kernel_rfl) (fun K hK => ?_) (fun K hK => ?_)
          · go_simp
            refine hK.out _ _ trivial (fun hHeld => ?_)
            clear hK K
            try simp only [Act.put, List.setIfInBounds_toArray, List.set_cons_zero, List.set_cons_succ]
            refine wpAnyH_takeD (i := 7) (v := ?_) rfl (by kernel_rfl) (by kernel_rfl) (by kernel_rfl) (fun _ _ _ h => h) (Or.inl ⟨by rfl, ?_⟩) hHeld ?_
            rotate_left
            · rintro w hSw
              go_simp
              try with_reducible rfl
            try simp only [Act.put, List.setIfInBounds_toArray, List.set_cons_zero, List.set_cons_succ]
            refine wpAnyH_two (i := 8) (j := 12) rfl rfl (by kernel_rfl) (fun K hK => ?_) (fun K hK => ?_)
            · go_simp
              refine (hdecE (S9 ++ CB) _ 10 hdc _).mono ?_
              rintro r w6 ⟨rfl, b5⟩
              refine hK.out _ _ trivial (fun hHeld => ?_)
              clear hK K
              try simp only [Act.put, List.setIfInBounds_toArray, List.set_cons_zero, List.set_cons_succ]
              refine wpAnyH_takeD (i := 9) (v := ?_) rfl (by kernel_rfl) (by kernel_rfl) (by kernel_rfl) (fun _ _ _ h => h) (Or.inl ⟨by rfl, ?_⟩) hHeld ?_
              rotate_left
              · rintro w hSw
                go_simp
                try with_reducible rfl
              try simp only [Act.put, List.setIfInBounds_toArray, List.set_cons_zero, List.set_cons_succ]
              refine wpAnyH_takeD (i := 10) (v := ?_) rfl (by kernel_rfl) (by kernel_rfl) (by kernel_rfl) (fun _ _ _ h => h) (Or.inl ⟨by rfl, ?_⟩) hHeld ?_
              rotate_left
              · rintro w hSw
                go_simp
                try with_reducible rfl
              try simp only [Act.put, List.setIfInBounds_toArray, List.set_cons_zero, List.set_cons_succ]
              refine wpAnyH_takeD (i := 11) (v := ?_) rfl (by kernel_rfl) (by kernel_rfl) (by kernel_rfl) (fun _ _ _ h => h) (Or.inl ⟨by rfl, ?_⟩) hHeld ?_
              rotate_left
              · rintro w hSw
                go_simp
                try with_reducible rfl
              try simp only [Act.put, List.setIfInBounds_toArray, List.set_cons_zero, List.set_cons_succ]
              refine wpAnyH_one (i := 12) rfl (by kernel_rfl) (fun K hK => ?_)
              go_simp
              refine hK.out _ _ trivial (fun hHeld => ?_)
              clear hK K
              try simp only [Act.put, List.setIfInBounds_toArray, List.set_cons_zero, List.set_cons_succ]
              refine wpAnyH_one (i := 13) rfl (by kernel_rfl) (fun K hK => ?_)
              go_simp
              refine hK.out _ _ trivial (fun hHeld => ?_)
              clear hK K
              try simp only [Act.put, List.setIfInBounds_toArray, List.set_cons_zero, List.set_cons_succ]
              refine wpAnyH_takeD (i := 14) (v := ?_) rfl (by kernel_rfl) (by kernel_rfl) (by kernel_rfl) (fun _ _ _ h => h) (Or.inl ⟨by rfl, ?_⟩) hHeld ?_
              rotate_left
              · rintro w hSw
                go_simp
                try with_reducible rfl
              try simp only [Act.put, List.setIfInBounds_toArray, List.set_cons_zero, List.set_cons_succ]
              refine wpAnyH_done (by kernel_rfl) ?_ _
              refine NoPanic.normal ?_
              have hsz4 := b4.out.size
              go_wp2_with fail
              go_meet
              case rel => exact ⟨rfl, Lib.hid ((b_one b4.out b5).alloc (b_one b4.out b5).size _)⟩
            · go_simp
              refine hK.out _ _ trivial (fun hHeld => ?_)
              clear hK K
              try simp only [Act.put, List.setIfInBounds_toArray, List.set_cons_zero, List.set_cons_succ]
              refine wpAnyH_one (i := 8) rfl (by kernel_rfl) (fun K hK => ?_)
              go_simp
              refine (hdecE (S9 ++ CB) _ 10 hdc _).mono ?_
              rintro r w6 ⟨rfl, b5⟩
              obtain ⟨⟨c0, c1, c2, c3, c4⟩, f0, f1, f2, f3, f4⟩ := z5_late b5
              refine hK.out _ _ trivial (fun hHeld => ?_)
              clear hK K
              try simp only [Act.put, List.setIfInBounds_toArray, List.set_cons_zero, List.set_cons_succ]
              refine wpAnyH_takeD (i := 9) (v := ?_) rfl (by kernel_rfl) (by kernel_rfl) (by kernel_rfl) (fun _ _ _ h => h) (Or.inl ⟨by rfl, ?_⟩) hHeld ?_
              rotate_left
              · rintro w hSw
                go_simp
                try with_reducible rfl
              try simp only [Act.put, List.setIfInBounds_toArray, List.set_cons_zero, List.set_cons_succ]
              refine wpAnyH_takeD (i := 10) (v := ?_) rfl (by kernel_rfl) (by kernel_rfl) (by kernel_rfl) (fun _ _ _ h => h) (Or.inl ⟨by rfl, ?_⟩) hHeld ?_
              rotate_left
              · rintro w hSw
                go_simp
                try with_reducible rfl
              try simp only [Act.put, List.setIfInBounds_toArray, List.set_cons_zero, List.set_cons_succ]
              refine wpAnyH_takeD (i := 11) (v := ?_) rfl (by kernel_rfl) (by kernel_rfl) (by kernel_rfl) (fun _ _ _ h => h) (Or.inl ⟨by rfl, ?_⟩) hHeld ?_
              rotate_left
              · rintro w hSw
                go_simp
                try with_reducible rfl
              try simp only [Act.put, List.setIfInBounds_toArray, List.set_cons_zero, List.set_cons_succ]
              refine wpAnyH_one (i := 13) rfl (by kernel_rfl) (fun K hK => ?_)
              go_simp
              refine hK.out _ _ trivial (fun hHeld => ?_)
              clear hK K
              try simp only [Act.put, List.setIfInBounds_toArray, List.set_cons_zero, List.set_cons_succ]
              refine wpAnyH_takeD (i := 14) (v := ?_) rfl (by kernel_rfl) (by kernel_rfl) (by kernel_rfl) (fun _ _ _ h => h) (Or.inl ⟨by rfl, ?_⟩) hHeld ?_
              rotate_left
              · rintro w hSw
                go_simp
                try with_reducible rfl
              try simp only [Act.put, List.setIfInBounds_toArray, List.set_cons_zero, List.set_cons_succ]
              refine wpAnyH_done (by kernel_rfl) ?_ _
              refine NoPanic.normal ?_
              have hsz4 := b4.out.size
              go_wp2_with fail
              go_meet
              case rel => exact ⟨rfl, Lib.hid (below_five (b_two b4.out b5) _ (Nat.le_succ_of_le hsz4) _ _ _ _ _)⟩
          · go_simp
            refine hK.out _ _ trivial (fun hHeld => ?_)
            clear hK K
            try simp only [Act.put, List.setIfInBounds_toArray, List.set_cons_zero, List.set_cons_succ]
            refine wpAnyH_one (i := 6) rfl (by kernel_rfl) (fun K hK => ?_)
            go_simp
            refine hK.out _ _ trivial (fun hHeld => ?_)
            clear hK K
            try simp only [Act.put, List.setIfInBounds_toArray, List.set_cons_zero, List.set_cons_succ]
            refine wpAnyH_takeD (i := 7) (v := ?_) rfl (by kernel_rfl) (by kernel_rfl) (by kernel_rfl) (fun _ _ _ h => h) (Or.inl ⟨by rfl, ?_⟩) hHeld ?_
            rotate_left
            · rintro w hSw
              go_simp
              try with_reducible rfl
            try simp only [Act.put, List.setIfInBounds_toArray, List.set_cons_zero, List.set_cons_succ]
            refine wpAnyH_one (i := 8) rfl (by kernel_rfl) (fun K hK => ?_)
            go_simp
            refine (hdecE (S9 ++ CB) _ 10 hdc _).mono ?_
            rintro r w6 ⟨rfl, b5⟩
            obtain ⟨⟨c0, c1, c2, c3, c4⟩, f0, f1, f2, f3, f4⟩ := z5_late b5
            refine hK.out _ _ trivial (fun hHeld => ?_)
            clear hK K
            try simp only [Act.put, List.setIfInBounds_toArray, List.set_cons_zero, List.set_cons_succ]
            refine wpAnyH_takeD (i := 9) (v := ?_) rfl (by kernel_rfl) (by kernel_rfl) (by kernel_rfl) (fun _ _ _ h => h) (Or.inl ⟨by rfl, ?_⟩) hHeld ?_
            rotate_left
            · rintro w hSw
              go_simp
              try with_reducible rfl
            try simp only [Act.put, List.setIfInBounds_toArray, List.set_cons_zero, List.set_cons_succ]
            refine wpAnyH_takeD (i := 10) (v := ?_) rfl (by kernel_rfl) (by kernel_rfl) (by kernel_rfl) (fun _ _ _ h => h) (Or.inl ⟨by rfl, ?_⟩) hHeld ?_
            rotate_left
            · rintro w hSw
              go_simp
              try with_reducible rfl
            try simp only [Act.put, List.setIfInBounds_toArray, List.set_cons_zero, List.set_cons_succ]
            refine wpAnyH_takeD (i := 11) (v := ?_) rfl (by kernel_rfl) (by kernel_rfl) (by kernel_rfl) (fun _ _ _ h => h) (Or.inl ⟨by rfl, ?_⟩) hHeld ?_
            rotate_left
            · rintro w hSw
              go_simp
              try with_reducible rfl
            try simp only [Act.put, List.setIfInBounds_toArray, List.set_cons_zero, List.set_cons_succ]
            refine wpAnyH_one (i := 13) rfl (by kernel_rfl) (fun K hK => ?_)
            go_simp
            refine hK.out _ _ trivial (fun hHeld => ?_)
            clear hK K
            try simp only [Act.put, List.setIfInBounds_toArray, List.set_cons_zero, List.set_cons_succ]
            refine wpAnyH_takeD (i := 14) (v := ?_) rfl (by kernel_rfl) (by kernel_rfl) (by kernel_rfl) (fun _ _ _ h => h) (Or.inl ⟨by rfl, ?_⟩) hHeld ?_
            rotate_left
            · rintro w hSw
              go_simp
              try with_reducible rfl
            try simp only [Act.put, List.setIfInBounds_toArray, List.set_cons_zero, List.set_cons_succ]
            refine wpAnyH_done (by kernel_rfl) ?_ _
            refine NoPanic.normal ?_
            have hsz4 := b4.out.size
            go_wp2_with fail
            go_meet
            case rel => exact ⟨rfl, Lib.hid (below_five (b_two b4.out b5) _ (Nat.le_succ_of_le hsz4) _ _ _ _ _)⟩
        · go_simp
          refine hK.out _ _ trivial (fun hHeld => ?_)
          clear hK K
          try simp only [Act.put, List.setIfInBounds_toArray, List.set_cons_zero, List.set_cons_succ]
          refine wpAnyH_one (i := 5) rfl (by kernel_rfl) (fun K hK => ?_)
          go_simp
          refine hK.out _ _ trivial (fun hHeld => ?_)
          clear hK K
          try simp only [Act.put, List.setIfInBounds_toArray, List.set_cons_zero, List.set_cons_succ]
          refine wpAnyH_one (i := 6) rfl (by kernel_rfl) (fun K hK => ?_)
          go_simp
          refine hK.out _ _ trivial (fun hHeld => ?_)
          clear hK K
          try simp only [Act.put, List.setIfInBounds_toArray, List.set_cons_zero, List.set_cons_succ]
          refine wpAnyH_takeD (i := 7) (v := ?_) rfl (by kernel_rfl) (by kernel_rfl) (by kernel_rfl) (fun _ _ _ h => h) (Or.inl ⟨by rfl, ?_⟩) hHeld ?_
          rotate_left
          · rintro w hSw
            go_simp
            try with_reducible rfl
          try simp only [Act.put, List.setIfInBounds_toArray, List.set_cons_zero, List.set_cons_succ]
          refine wpAnyH_one (i := 8) rfl (by kernel_rfl) (fun K hK => ?_)
          go_simp
          refine (hdecE (S9 ++ CB) _ 10 hdc _).mono ?_
          rintro r w6 ⟨rfl, b5⟩
          obtain ⟨⟨c0, c1, c2, c3, c4⟩, f0, f1, f2, f3, f4⟩ := z5_early b5
          refine hK.out _ _ trivial (fun hHeld => ?_)
          clear hK K
          try simp only [Act.put, List.setIfInBounds_toArray, List.set_cons_zero, List.set_cons_succ]
          refine wpAnyH_takeD (i := 9) (v := ?_) rfl (by kernel_rfl) (by kernel_rfl) (by kernel_rfl) (fun _ _ _ h => h) (Or.inl ⟨by rfl, ?_⟩) hHeld ?_
          rotate_left
          · rintro w hSw
            go_simp
            try with_reducible rfl
          try simp only [Act.put, List.setIfInBounds_toArray, List.set_cons_zero, List.set_cons_succ]
          refine wpAnyH_takeD (i := 10) (v := ?_) rfl (by kernel_rfl) (by kernel_rfl) (by kernel_rfl) (fun _ _ _ h => h) (Or.inl ⟨by rfl, ?_⟩) hHeld ?_
          rotate_left
          · rintro w hSw
            go_simp
            try with_reducible rfl
          try simp only [Act.put, List.setIfInBounds_toArray, List.set_cons_zero, List.set_cons_succ]
          refine wpAnyH_takeD (i := 11) (v := ?_) rfl (by kernel_rfl) (by kernel_rfl) (by kernel_rfl) (fun _ _ _ h => h) (Or.inl ⟨by rfl, ?_⟩) hHeld ?_
          rotate_left
          · rintro w hSw
            go_simp
            try with_reducible rfl
          try simp only [Act.put, List.setIfInBounds_toArray, List.set_cons_zero, List.set_cons_succ]
          refine wpAnyH_one (i := 13) rfl (by kernel_rfl) (fun K hK => ?_)
          go_simp
          refine hK.out _ _ trivial (fun hHeld => ?_)
          clear hK K
          try simp only [Act.put, List.setIfInBounds_toArray, List.set_cons_zero, List.set_cons_succ]
          refine wpAnyH_takeD (i := 14) (v := ?_) rfl (by kernel_rfl) (by kernel_rfl) (by kernel_rfl) (fun _ _ _ h => h) (Or.inl ⟨by rfl, ?_⟩) hHeld ?_
          rotate_left
          · rintro w hSw
            go_simp
            try with_reducible rfl
          try simp only [Act.put, List.setIfInBounds_toArray, List.set_cons_zero, List.set_cons_succ]
          refine wpAnyH_done (by kernel_rfl) ?_ _
          refine NoPanic.normal ?_
          have hsz4 := b4.out.size
          go_wp2_with fail
          go_meet
          case rel => exact ⟨rfl, Lib.hid (below_five (b_two b4.out b5) _ hsz4 _ _ _ _ _)⟩
      case rest =>
        obtain ⟨rfl, b5⟩ := hcut
        clear b4 k1 k2 k3
        go_wp2_with fail
        refine (hdecE ⟨#[]⟩ _ 4 hde _).mono ?_
        rintro r w6 ⟨rfl, q6⟩
        have b6 : Hid (Below w.heap.size w w6) := Lib.hid (b5.out.trans (q6.mono b5.out.size))
        clear q6 b5
        go_wp2_with fail
        refine (hencE 0 0 0 0 0 Z 0 hez _).mono ?_
        rintro r w7 ⟨rfl, q7⟩
        have b7 : Hid (Below w.heap.size w w7) := Lib.hid ((b6.out.alloc b6.out.size _).trans (q7.mono (b6.out.alloc b6.out.size _).size))
        clear q7 b6
        have m7 : (Instr.makeSlice 32 (.int .i64 10) (.int .i64 10)).run Try.prog w7 = .ok (.slice (some ⟨w7.heap.size, 0, none⟩) 10 10) (makeW w7 10) := hmk w7
        have s7 := hms w7
        have y7 := Lib.hid (makeW_below w7 10)
        clear hmk hms
        generalize makeW w7 10 = w8 at *
        go_wp2_with fail
        refine (works13 _).mono ?_
        rintro r w9 ⟨rfl, q9⟩
        go_wp2_with fail
        go_returns
        exact ⟨rfl, (b7.out.trans (y7.out.mono b7.out.size)).trans (q9.mono (b7.out.trans (y7.out.mono b7.out.size)).size)⟩

end Go.Proofs.Ytdipbdoekmcgbaa
