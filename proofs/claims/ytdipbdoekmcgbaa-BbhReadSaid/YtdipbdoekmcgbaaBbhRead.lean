/-
  BbhRead: the walk.
-/
import Derived.Test.YtdipbdoekmcgbaaBbh6
import Derived.Deep.CutBlock
namespace Go.Proofs.Ytdipbdoekmcgbaa
open Go.RowKit

set_option maxRecDepth 100000 in
set_option maxHeartbeats 1600000 in
theorem bbhRead_walk (s : ByteArray) (w : World) : Calls Try.prog 4 #[.string s] w fun r w' => r = .returned (.bool true) ∧ Below w.heap.size w w' := by
  go_enter Try.func4, Try.ntmps4
  go_upto_region 1 with fail
  go_cut [0] (fun v wc => (∃ S : ByteArray, v = .string S ∧ S.size ≤ 20) ∧ wc = w)
  case first =>
    by_cases hs1 : (s.size : Int) ≤ 20
    · go_wp2_with fail
      go_meet
      case rel => exact ⟨⟨s, rfl, by omega⟩, rfl⟩
    · have hs2 : (20 : Int) < s.size := by omega
      go_wp2_with fail
      go_meet
      case rel => exact ⟨⟨_, rfl, by simp; omega⟩, rfl⟩
  case rest =>
    obtain ⟨⟨S, rfl, hS⟩, rfl⟩ := hcut
    go_wp2_with fail
    go_loopw [0, 3] (fun v i wr => ∃ (k : Nat) (S : ByteArray), k ≤ 2 ∧ i = .int .i64 k ∧ v = .string S ∧ S.size ≤ 20 ∧ Hid (Below wc.heap.size wc wr)) (fun _ i _ => 2 - (intOf i).toNat)
    case atStart => exact ⟨0, S, by omega, rfl, rfl, hS, Lib.hid (Below.refl _ _)⟩
    case round =>
      clear hS S
      obtain ⟨k, S, hk, rfl, rfl, hS, bel⟩ := hrel
      by_cases hk2 : k < 2
      · have hki : (k : Int) < 2 := by omega
        obtain ⟨a, b, c, d, e, kk, hd⟩ := hdecode_has S
        go_wp2_with fail
        refine (hdecE S _ kk hd _).mono ?_
        rintro r w1 ⟨rfl, q1⟩
        have H1 := Lib.hid (Blk.new w1 (headC a b c d e) THead)
        have b1 : Hid (Below wc.heap.size wc w1) := Lib.hid (bel.out.trans (q1.mono bel.out.size))
        clear q1 bel
        go_wp2_with fail
        refine (rdecE S _ kk hd _).mono ?_
        rintro r w2 ⟨rfl, q2⟩
        have H2 := (H1.out.below q2 (by simp)).alloc (.cells (headC a b c d e).toArray THead)
        have b2 : Hid (Below wc.heap.size wc w2) := Lib.hid ((b1.out.alloc b1.out.size _).trans (q2.mono (b1.out.alloc b1.out.size _).size))
        have c0 := H2.cell 0 rfl
        have c1 := H2.cell 1 rfl
        have c2 := H2.cell 2 rfl
        have c3 := H2.cell 3 rfl
        have c4 := H2.cell 4 rfl
        clear q2 b1 H1 H2
        by_cases h10 : (10 : Int) ≤ S.size
        · have h9 : (9 : Int) ≤ S.size := by omega
          obtain ⟨T, hT⟩ : ∃ T, S.extract 0 9 = T := ⟨_, rfl⟩
          have hT9 : T.size + 1 = 10 := by rw [← hT]; simp; omega
          go_wp2_with fail
          clear c0 c1 c2 c3 c4 hd
          generalize hw3 : w2.alloc _ = w3
          have b3 : Hid (Below wc.heap.size wc w3) := Lib.hid (by rw [← hw3]; exact b2.out.alloc b2.out.size _)
          clear hw3 b2 hT
          go_loopw [0, 9] (fun v i wr => ∃ (n : Nat) (S : ByteArray), n ≤ 256 ∧ i = .int .i64 n ∧ v = .string S ∧ S.size ≤ 20 ∧ Hid (Below wc.heap.size wc wr)) (fun _ i _ => 256 - (intOf i).toNat)
          case atStart => exact ⟨0, S, by omega, rfl, rfl, hS, b3⟩
          case round =>
            clear b3
            obtain ⟨n, S2, hn, rfl, rfl, hS2, b4⟩ := hrel
            by_cases hn2 : n < 256
            · have hni : (n : Int) < 256 := by omega
              obtain ⟨U, hU⟩ : ∃ U, T ++ ⟨#[UInt8.ofNat n]⟩ = U := ⟨_, rfl⟩
              have hU10 : U.size ≤ 20 := by rw [← hU, ByteArray.size_append]; show T.size + 1 ≤ 20; omega
              obtain ⟨a2, b2, c2, d2, e2, k2, hd2⟩ := hdecode_has U
              have hcv := fun v => conv_one v n 1
              simp only [Int.toNat_natCast] at hcv
              go_wp2_with fail
              refine (rdecE U _ k2 hd2 _).mono ?_
              rintro r w5 ⟨rfl, q5⟩
              have b5 : Hid (Below wc.heap.size wc w5) := Lib.hid ((b4.out.alloc b4.out.size _).trans (q5.mono (b4.out.alloc b4.out.size _).size))
              clear q5 b4 hcv
              by_cases hk10 : k2 = 10
              · go_wp2_with fail
                exact ⟨⟨n + 1, S2, by omega, by go_num, rfl, hS2, Lib.hid (b5.out.alloc b5.out.size _)⟩, by simp [intOf]; omega⟩
              · go_wp2_with fail
                exact ⟨⟨n + 1, U, by omega, by go_num, rfl, hU10, Lib.hid (b5.out.alloc b5.out.size _)⟩, by simp [intOf]; omega⟩
            · go_wp2_with fail
              exact ⟨⟨k + 1, S2, by omega, by go_num, rfl, hS2, b4⟩, by simp [intOf]; omega⟩
        · have h10' : (S.size : Int) < 10 := by omega
          go_wp2_with fail
          exact ⟨⟨k + 1, S, by omega, by go_num, rfl, hS, Lib.hid (b2.out.alloc b2.out.size _)⟩, by simp [intOf]; omega⟩
      · go_wp2_with fail
        refine (works13 _).mono ?_
        rintro r w9 ⟨rfl, q9⟩
        go_wp2_with fail
        go_returns
        exact ⟨rfl, bel.out.trans (q9.mono bel.out.size)⟩

end Go.Proofs.Ytdipbdoekmcgbaa
