/-
  BbhBack: the walk.
-/
import Derived.Test.YtdipbdoekmcgbaaBbh4
namespace Go.Proofs.Ytdipbdoekmcgbaa
open Go.RowKit

theorem of_ok {a b c d e : Int} (h0 : 0 ≤ a ∧ a ≤ 65535) (h1 : 0 ≤ b ∧ b ≤ 65535) (h4 : 0 ≤ e ∧ e ≤ 65535) : headE a b (c % 58113) (d % 256) e = 0 := by
  unfold headE
  rw [if_pos (may_yes (by omega))]
theorem hdec_of {a b c d e : Int} {S : ByteArray} (h : headE a b c d e = 0) (hS : hencode a b c d e = (S, 0)) : hdecode S = (headV a b c d e, 0) ∧ S.size = 10 := by
  obtain ⟨A, B, C, D, E, rfl, rfl, rfl, rfl, rfl, h0, h1, h2, h3, h4⟩ := head_nat h
  rw [hencode_nat A B C D E h] at hS
  injection hS with hS _
  subst hS
  exact ⟨hdec_enc A B C D E h0 h1 h2 h3 h4, rfl⟩
theorem hen_of {a b c d e : Int} (h : headE a b c d e = 0) : ∃ S, Hid (hencode a b c d e = (S, 0)) := ⟨(hencode a b c d e).1, Lib.hid (by
  have := hencode_err a b c d e
  rw [h] at this
  rw [← this])⟩

set_option maxRecDepth 100000 in
set_option maxHeartbeats 1600000 in
theorem bbhBack_walk (a b c0 d0 e : Int) (s : ByteArray) (h0 : 0 ≤ a ∧ a ≤ 65535) (h1 : 0 ≤ b ∧ b ≤ 65535) (h2 : 0 ≤ c0 ∧ c0 ≤ 65535) (h3 : 0 ≤ d0 ∧ d0 ≤ 65535) (h4 : 0 ≤ e ∧ e ≤ 65535) (w : World) :
    Calls Try.prog 5 #[.agg #[.int .u16 a, .int .u16 b, .int .u16 c0, .int .u16 d0, .int .u16 e], .string s] w fun r w' => r = .returned (.bool true) ∧ Below w.heap.size w w' := by
  have hok := of_ok (c := c0) (d := d0) h0 h1 h4
  have hof := fun w => of_is a b c0 d0 e h0 h1 h2 h3 h4 w
  have HOF := Lib.hid hof
  generalize c0 % 58113 = c at *
  generalize d0 % 256 = d at *
  obtain ⟨S, hS⟩ := hen_of hok
  have hde := Lib.hid (hdec_of hok hS.out).1
  have hsn := (hdec_of hok hS.out).2
  have hsz : (S.size : Int) = 10 := by omega
  have HOK := Lib.hid hok
  clear hof hok h0 h1 h2 h3 h4
  go_enter Try.func5, Try.ntmps5
  go_wp2_with fail
  refine (HOF.out _).mono ?_
  rintro r w1 ⟨rfl, q1⟩
  have b1 : Hid (Below w.heap.size w w1) := Lib.hid (((Below.refl _ _).alloc (Nat.le_refl _) _).trans (q1.mono (by simp)))
  have H1 := Lib.hid (Blk.new w1 (headC a b c d e) THead)
  clear q1
  go_wp2_with fail
  refine (hencE a b c d e S 0 hS _).mono ?_
  rintro r w2 ⟨rfl, q2⟩
  have H2 := Lib.hid (H1.out.below q2 (by simp))
  have b2 : Hid (Below w.heap.size w w2) := Lib.hid ((b1.out.alloc b1.out.size _).trans (q2.mono (b1.out.alloc b1.out.size _).size))
  clear q2 H1 b1
  go_wp2_with fail
  refine (hdecE S _ 0 hde _).mono ?_
  rintro r w3 ⟨rfl, q3⟩
  have H3 := H2.out.below q3 H2.out.lt
  have b3 : Hid (Below w.heap.size w w3) := Lib.hid (b2.out.trans (q3.mono b2.out.size))
  have c0 := (H3.alloc (.cells (headC a b c d e).toArray THead)).cell 0 rfl
  have c1 := (H3.alloc (.cells (headC a b c d e).toArray THead)).cell 1 rfl
  have c2 := (H3.alloc (.cells (headC a b c d e).toArray THead)).cell 2 rfl
  have c3 := (H3.alloc (.cells (headC a b c d e).toArray THead)).cell 3 rfl
  have c4 := (H3.alloc (.cells (headC a b c d e).toArray THead)).cell 4 rfl
  have HH3 := Lib.hid H3
  clear q3 H2 b2 H3
  go_wp2_with fail
  refine (hchkE a b c d e 0 HOK _).mono ?_
  rintro r w4 ⟨rfl, q4⟩
  have H4 := Lib.hid ((HH3.out.alloc (.cells (headC a b c d e).toArray THead)).below q4 (HH3.out.alloc _).lt)
  have G4 := Lib.hid ((Blk.new w3 (headC a b c d e) THead).below q4 (by simp))
  have b4 : Hid (Below w.heap.size w w4) := Lib.hid ((b3.out.alloc b3.out.size _).trans (q4.mono (b3.out.alloc b3.out.size _).size))
  have c0 := H4.out.cell 0 rfl
  have c1 := H4.out.cell 1 rfl
  have c2 := H4.out.cell 2 rfl
  have c3 := H4.out.cell 3 rfl
  have c4 := H4.out.cell 4 rfl
  have g0 := G4.out.cell 0 rfl
  have g1 := G4.out.cell 1 rfl
  have g2 := G4.out.cell 2 rfl
  have g3 := G4.out.cell 3 rfl
  have g4 := G4.out.cell 4 rfl
  clear q4 b3 HH3
  by_cases hs1 : (s.size : Int) ≤ 12
  · obtain ⟨x0, x1, x2, x3, x4, k2, hd⟩ := hdecode_has s
    by_cases hk2 : k2 = 0
    · subst hk2
      have hED := Lib.hid (henc_dec s x0 x1 x2 x3 x4 hd.out)
      go_wp2_with fail
      refine (hdecE s _ 0 hd _).mono ?_
      rintro r w5 ⟨rfl, q5⟩
      have b5 : Hid (Below w.heap.size w w5) := Lib.hid (b4.out.trans (q5.mono b4.out.size))
      clear q5 b4 c0 c1 c2 c3 c4 g0 g1 g2 g3 g4
      go_wp2_with fail
      refine (hencE x0 x1 x2 x3 x4 s 0 (Lib.hid hED.out.2.1) _).mono ?_
      rintro r w6 ⟨rfl, q6⟩
      have b6 : Hid (Below w.heap.size w w6) := Lib.hid ((b5.out.alloc b5.out.size _).trans (q6.mono (b5.out.alloc b5.out.size _).size))
      clear q6 b5
      go_wp2_with fail
      refine (works13 _).mono ?_
      rintro r w7 ⟨rfl, q7⟩
      go_wp2_with fail
      go_returns
      exact ⟨rfl, b6.out.trans (q7.mono b6.out.size)⟩
    · have hz := hdecode_zero s _ k2 hd.out hk2
      simp at hz
      obtain ⟨rfl, rfl, rfl, rfl, rfl⟩ := hz
      go_wp2_with fail
      refine (hdecE s _ k2 hd _).mono ?_
      rintro r w5 ⟨rfl, q5⟩
      have b5 : Hid (Below w.heap.size w w5) := Lib.hid (b4.out.trans (q5.mono b4.out.size))
      clear q5 b4 c0 c1 c2 c3 c4 g0 g1 g2 g3 g4
      go_wp2_with fail
      refine (works13 _).mono ?_
      rintro r w7 ⟨rfl, q7⟩
      go_wp2_with fail
      go_returns
      exact ⟨rfl, (b5.out.alloc b5.out.size _).trans (q7.mono (b5.out.alloc b5.out.size _).size)⟩
  · have hs2 : (12 : Int) < s.size := by omega
    obtain ⟨S', hS'⟩ : ∃ S', s.extract 0 12 = S' := ⟨_, rfl⟩
    have hd : Hid (hdecode S' = (headV 0 0 0 0 0, 4)) := Lib.hid (by
      unfold hdecode
      rw [if_pos (by rw [← hS']; simp; omega)])
    go_wp2_with fail
    refine (hdecE S' _ 4 hd _).mono ?_
    rintro r w5 ⟨rfl, q5⟩
    have b5 : Hid (Below w.heap.size w w5) := Lib.hid (b4.out.trans (q5.mono b4.out.size))
    clear q5 b4 c0 c1 c2 c3 c4 g0 g1 g2 g3 g4
    go_wp2_with fail
    refine (works13 _).mono ?_
    rintro r w7 ⟨rfl, q7⟩
    go_wp2_with fail
    go_returns
    exact ⟨rfl, (b5.out.alloc b5.out.size _).trans (q7.mono (b5.out.alloc b5.out.size _).size)⟩

end Go.Proofs.Ytdipbdoekmcgbaa
