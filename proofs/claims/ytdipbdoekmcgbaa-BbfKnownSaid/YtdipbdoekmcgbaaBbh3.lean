/-
  bbh.Decode: by contract.
-/
import Derived.Test.YtdipbdoekmcgbaaBbh2
namespace Go.Proofs.Ytdipbdoekmcgbaa
open Go.RowKit

theorem drop_take_snoc (s : ByteArray) (a k : Nat) (h : a + k < s.size) : (s.data.toList.drop a).take (k + 1) = (s.data.toList.drop a).take k ++ [s[a + k]] := by
  have hl : k < (s.data.toList.drop a).length := by rw [List.length_drop, len_bytes]; omega
  rw [List.take_add_one, List.getElem?_eq_getElem hl, List.getElem_drop]
  rfl

set_option maxRecDepth 100000 in
set_option maxHeartbeats 400000 in
theorem take_is (n : Nat) (hn : n ≤ 2) (s : ByteArray) (a b1 b4 : Nat) (w : World) (h1 : w.cell? ⟨b1, 0, none⟩ = some (.string s)) (h4 : Blk w b4 [.int .i64 (a : Int)] 3) (hne : b1 ≠ b4) (hat : a + n ≤ s.size) (hs : s.size ≤ 100) :
    Calls Try.prog 33 #[.int .i64 n, .pointer (some ⟨b1, 0, none⟩), .pointer (some ⟨b4, 0, none⟩)] w fun e w' => e = .returned (.int .i64 (numL ((s.data.toList.drop a).take n))) ∧ Wrote (fun k => k = b4) w w' ∧ Blk w' b4 [.int .i64 ((a + n : Nat) : Int)] 3 := by
  have H4 := Lib.hid h4
  clear h4
  go_enter Try.func33, Try.ntmps33
  go_wp2_with fail
  go_loopw [5, 7] (fun v i wr => ∃ k : Nat, k ≤ n ∧ i = .int .i64 k ∧ v = .int .i64 (numL ((s.data.toList.drop a).take k)) ∧ Hid (Blk wr b4 [.int .i64 ((a + k : Nat) : Int)] 3) ∧ Hid (Wrote (fun k => k = b4) w wr) ∧ Hid (wr.cell? ⟨b1, 0, none⟩ = some (.string s))) (fun _ i _ => n - (intOf i).toNat)
  case atStart => exact ⟨0, by omega, rfl, rfl, H4, Lib.hid (Wrote.refl _ _), Lib.hid h1⟩
  case round =>
    obtain ⟨k, hk, rfl, rfl, G, W, C⟩ := hrel
    clear H4 h1
    by_cases hlt : k < n
    · have hlt2 : (k : Int) < n := by omega
      have c4 := G.out.cell 0 rfl
      have f4 := G.out.free 0
      have c1 := C.out
      have hix : a + k < s.size := by omega
      have hix2 : (a : Int) + (k : Int) < s.size := by omega
      have hl := numL_lt ((s.data.toList.drop a).take k)
      have hl2 : numL ((s.data.toList.drop a).take k) < 256 := by
        have : 256 ^ ((s.data.toList.drop a).take k).length ≤ 256 ^ 1 := Nat.pow_le_pow_right (by omega) (by rw [List.length_take]; omega)
        omega
      have hc := s[a + k].toNat_lt
      have HOR : Hid (bits BinOp.or IntKind.i64 (↑(numL ((s.data.toList.drop a).take k)) * 256) ↑s[a + k].toNat = ((numL ((s.data.toList.drop a).take (k + 1)) : Nat) : Int)) := Lib.hid (by
        rw [drop_take_snoc s a k hix, numL_snoc]
        exact or_byte _ _ (by omega) hc)
      clear hl
      rw [Int.natCast_add] at c4
      go_wp2_with fail
      refine ⟨⟨k + 1, by omega, by go_num, by rw [HOR.out], Lib.hid ?_, Lib.hid (W.out.trans (Wrote.set _ wr b4 0 _ rfl)), Lib.hid ?_⟩, by simp [intOf]; omega⟩
      · have hg := G.out.set 0 (.int .i64 ((a : Int) + k + 1))
        rw [show ((a + (k + 1) : Nat) : Int) = (a : Int) + k + 1 by omega]
        exact hg
      · rw [World.cell?_setCell_other _ _ _ _ (fun e => by injection e; omega)]
        exact C.out
    · obtain rfl : k = n := by omega
      go_wp2_with fail
      go_returns
      exact ⟨rfl, W.out, G.out⟩

theorem set_five (w : World) (b : Nat) (x0 x1 x2 x3 x4 : Value) (h0 : w.cell? ⟨b, 0, none⟩ = some x0) (h1 : w.cell? ⟨b, 1, none⟩ = some x1) (h2 : w.cell? ⟨b, 2, none⟩ = some x2) (h3 : w.cell? ⟨b, 3, none⟩ = some x3) (h4 : w.cell? ⟨b, 4, none⟩ = some x4) :
    (∀ u, (w.setCell ⟨b, 0, none⟩ u).cell? ⟨b, 0, none⟩ = some u) ∧ (∀ u v, ((w.setCell ⟨b, 0, none⟩ u).setCell ⟨b, 1, none⟩ v).cell? ⟨b, 1, none⟩ = some v) ∧ (∀ u v t, (((w.setCell ⟨b, 0, none⟩ u).setCell ⟨b, 1, none⟩ v).setCell ⟨b, 2, none⟩ t).cell? ⟨b, 2, none⟩ = some t) ∧
    (∀ u v t r, ((((w.setCell ⟨b, 0, none⟩ u).setCell ⟨b, 1, none⟩ v).setCell ⟨b, 2, none⟩ t).setCell ⟨b, 3, none⟩ r).cell? ⟨b, 3, none⟩ = some r) ∧ (∀ u v t r p, (((((w.setCell ⟨b, 0, none⟩ u).setCell ⟨b, 1, none⟩ v).setCell ⟨b, 2, none⟩ t).setCell ⟨b, 3, none⟩ r).setCell ⟨b, 4, none⟩ p).cell? ⟨b, 4, none⟩ = some p) := by
  refine ⟨fun u => World.cell?_setCell_same _ _ _ h0, fun u v => World.cell?_setCell_same _ _ _ (u := x1) ?_, fun u v t => World.cell?_setCell_same _ _ _ (u := x2) ?_, fun u v t r => World.cell?_setCell_same _ _ _ (u := x3) ?_, fun u v t r p => World.cell?_setCell_same _ _ _ (u := x4) ?_⟩
  · rw [World.cell?_setCell_other _ _ _ _ (by simp)]; exact h1
  · rw [World.cell?_setCell_other _ _ _ _ (by simp), World.cell?_setCell_other _ _ _ _ (by simp)]; exact h2
  · rw [World.cell?_setCell_other _ _ _ _ (by simp), World.cell?_setCell_other _ _ _ _ (by simp), World.cell?_setCell_other _ _ _ _ (by simp)]; exact h3
  · rw [World.cell?_setCell_other _ _ _ _ (by simp), World.cell?_setCell_other _ _ _ _ (by simp), World.cell?_setCell_other _ _ _ _ (by simp), World.cell?_setCell_other _ _ _ _ (by simp)]; exact h4
theorem below_five {w w5 : World} (h : Below w.heap.size w w5) (b : Nat) (hb : w.heap.size ≤ b) (x y z u v : Value) : Below w.heap.size w (((((w5.setCell ⟨b, 0, none⟩ x).setCell ⟨b, 1, none⟩ y).setCell ⟨b, 2, none⟩ z).setCell ⟨b, 3, none⟩ u).setCell ⟨b, 4, none⟩ v) :=
  ((((h.setCell hb _).setCell hb _).setCell hb _).setCell hb _).setCell hb _

set_option maxRecDepth 100000 in
set_option maxHeartbeats 400000 in
theorem hdecode_form (s : ByteArray) (h : s.size ≠ 10) (w : World) : Calls Try.prog 17 #[.string s] w fun e w' => e = .returned (.tuple #[headV 0 0 0 0 0, .int .i64 4]) ∧ Below w.heap.size w w' := by
  have h' : ¬ ((s.size : Int) = 10) := by omega
  go_enter Try.func17, Try.ntmps17
  go_wp2
  go_returns
  exact ⟨rfl, ((Below.refl _ _).alloc (Nat.le_refl _) _).alloc (by simp) _⟩

theorem head_new (w : World) (s : ByteArray) : ∃ w1, (w.alloc (.cells #[.string s] 9)).alloc (Obj.cells #[Value.int IntKind.i64 0, Value.int IntKind.i64 0, Value.int IntKind.i64 0, Value.int IntKind.i64 0, Value.int IntKind.i64 0] THead) = w1 ∧ Hid (Blk w1 w.heap.size [.string s] 9) ∧ Hid (Blk w1 (w.heap.size + 1) (headC 0 0 0 0 0) THead) ∧ Hid (Below w.heap.size w w1) := by
  refine ⟨_, rfl, Lib.hid ((Blk.new w [.string s] 9).alloc _), Lib.hid ?_, Lib.hid (((Below.refl _ _).alloc (Nat.le_refl _) _).alloc (by simp) _)⟩
  have := Blk.new (w.alloc (.cells #[.string s] 9)) (headC 0 0 0 0 0) THead
  rw [World.size_alloc] at this
  exact this

set_option maxRecDepth 100000 in
set_option maxHeartbeats 400000 in
theorem hdecode_sum (s : ByteArray) (c d : Nat) (hs : s.size = 10) (hc : Hid (crcL (s.extract 0 9).data.toList = c)) (hd : s[9].toNat = d) (h : c ≠ d) (w : World) : Calls Try.prog 17 #[.string s] w fun e w' => e = .returned (.tuple #[headV 0 0 0 0 0, .int .i64 10]) ∧ Below w.heap.size w w' := by
  have h' : ¬ ((c : Int) = d) := by omega
  have h8 : (s.size : Int) = 10 := by omega
  have h7 : (9 : Int) < s.size := by omega
  have h77 : 9 < s.size := by omega
  have hx : (s.extract 0 9).size ≤ maxLen := by simp [maxLen]; omega
  obtain ⟨w1, hw1, S1, B1, q1⟩ := head_new w s
  have s0 := S1.out.cell 0 rfl
  go_enter Try.func17, Try.ntmps17
  go_upto_region 3 with fail
  clear hw1 s0
  have hi0 : ∀ y : WIn (Below w1.heap.size w1), y.val.cell? ⟨w.heap.size, 0, none⟩ = some (.string s) := fun y => (S1.out.below y.property S1.out.lt).cell 0 rfl
  have hne : Nonempty (WIn (Below w1.heap.size w1)) := ⟨⟨w1, Below.refl _ _⟩⟩
  refine wp_region_inv (Below w1.heap.size w1) (by kernel_rfl) (by kernel_rfl) (Below.refl _ _).drew ?_
  repeat (go_big_quiet_step ((go_at_call 28; exact quiet_call _ (sumE _ c hc hx _))))
  refine wpQuiet_nil ?_
  intro w2 q2
  have B2 := B1.out.below q2 B1.out.lt
  have c0 := B2.cell 0 rfl
  have c1 := B2.cell 1 rfl
  have c2 := B2.cell 2 rfl
  have c3 := B2.cell 3 rfl
  have c4 := B2.cell 4 rfl
  have f0 := B2.free 0
  have f1 := B2.free 1
  have f2 := B2.free 2
  have f3 := B2.free 3
  have f4 := B2.free 4
  have Q2 : Hid (Below w.heap.size w w2) := Lib.hid (q1.out.trans (q2.mono q1.out.size))
  obtain ⟨g00, g01, g02, g03, g04⟩ := set_five w2 (w.heap.size + 1) _ _ _ _ _ c0 c1 c2 c3 c4
  clear B2 q2 hi0 hne
  go_wp2_with fail
  refine bodyPost_ret (by simp [results, Try.results17, go_sem, g00, g01, g02, g03, g04]; try rfl) rfl ?_
  exact ⟨rfl, below_five Q2.out _ (by omega) _ _ _ _ _⟩

/-- While the numbers are taken: what lies where. -/
structure DecS (w w' : World) (s : ByteArray) (B a : Nat) (h0 h1 h2 h3 h4 : Int) : Prop where
  S : Blk w' w.heap.size [.string s] 9
  R : Blk w' (w.heap.size + 1) (headC 0 0 0 0 0) THead
  A : Blk w' B [.int .i64 (a : Int)] 3
  H : Blk w' (B + 1) (headC h0 h1 h2 h3 h4) THead
  bel : Below w.heap.size w w'
  lt : w.heap.size + 1 < B
abbrev numAtL (s : ByteArray) (a n : Nat) : Nat := numL ((s.data.toList.drop a).take n)
theorem take_step (w w' : World) (s : ByteArray) (B a a' n k : Nat) (h0 h1 h2 h3 h4 : Int) (h : Hid (DecS w w' s B a h0 h1 h2 h3 h4)) (hn : n ≤ 2) (hat : a + n ≤ s.size) (hs : s.size ≤ 100) (hk : Hid (numAtL s a n = k)) (ha : a + n = a') :
    Calls Try.prog 33 #[.int .i64 n, .pointer (some ⟨w.heap.size, 0, none⟩), .pointer (some ⟨B, 0, none⟩)] w' fun e w'' => e = .returned (.int .i64 k) ∧ Hid (DecS w w'' s B a' h0 h1 h2 h3 h4) := by
  subst ha
  obtain rfl := hk.out
  have D := h.out
  have hl := D.lt
  refine (take_is n hn s a w.heap.size B w' (D.S.cell 0 rfl) D.A (by omega) hat hs).mono ?_
  rintro e w'' ⟨rfl, W, A⟩
  exact ⟨rfl, Lib.hid ⟨D.S.kept W (by omega), D.R.kept W (by omega), A, D.H.kept W (by omega), Wrote.below D.bel W (fun i hi => by omega), hl⟩⟩
/-- What comes out of bytes whose sum is right. -/
def hdecV (a b c d e : Int) : Value := if headE a b c d e = 0 then headV a b c d e else headV 0 0 0 0 0
set_option maxRecDepth 100000 in
set_option maxHeartbeats 800000 in
theorem hdecode_any (s : ByteArray) (k a b c d e : Nat) (hs : s.size = 10) (hc : Hid (crcL (s.extract 0 9).data.toList = k)) (h : s[9].toNat = k)
    (ha : Hid (numAtL s 0 2 = a)) (hb : Hid (numAtL s 2 2 = b)) (hcc : Hid (numAtL s 4 2 = c)) (hd : Hid (numAtL s 6 1 = d)) (he : Hid (numAtL s 7 2 = e)) (w : World) :
    Calls Try.prog 17 #[.string s] w fun r w' => r = .returned (.tuple #[hdecV a b c d e, .int .i64 (headE a b c d e)]) ∧ Below w.heap.size w w' := by
  have h8 : (s.size : Int) = 10 := by omega
  have h7 : (9 : Int) < s.size := by omega
  have h77 : 9 < s.size := by omega
  have hx : (s.extract 0 9).size ≤ maxLen := by simp [maxLen]; omega
  have hmf := makeFunc_run
  obtain ⟨w1, hw1, S1, B1, q1⟩ := head_new w s
  have s0 := S1.out.cell 0 rfl
  go_enter Try.func17, Try.ntmps17
  go_upto_region 3 with fail
  clear hw1 s0
  have hi0 : ∀ y : WIn (Below w1.heap.size w1), y.val.cell? ⟨w.heap.size, 0, none⟩ = some (.string s) := fun y => (S1.out.below y.property S1.out.lt).cell 0 rfl
  have hne : Nonempty (WIn (Below w1.heap.size w1)) := ⟨⟨w1, Below.refl _ _⟩⟩
  refine wp_region_inv (Below w1.heap.size w1) (by kernel_rfl) (by kernel_rfl) (Below.refl _ _).drew ?_
  repeat (go_big_quiet_step ((go_at_call 28; exact quiet_call _ (sumE _ k hc hx _))))
  refine wpQuiet_nil ?_
  intro w2 q2
  have B2 := Lib.hid (B1.out.below q2 B1.out.lt)
  have S2 := Lib.hid (S1.out.below q2 S1.out.lt)
  have Q2 : Hid (Below w.heap.size w w2) := Lib.hid (q1.out.trans (q2.mono q1.out.size))
  clear q2 hi0 hne S1 B1 q1
  have hlt : w.heap.size + 1 < w2.heap.size := B2.out.lt
  have D0 : Hid (DecS w ((w2.alloc (.cells #[.int .i64 0] 3)).alloc (.cells #[.int .i64 0, .int .i64 0, .int .i64 0, .int .i64 0, .int .i64 0] THead)) s w2.heap.size 0 0 0 0 0 0) := Lib.hid
    { S := (S2.out.alloc _).alloc _
      R := (B2.out.alloc _).alloc _
      A := (Blk.new w2 [.int .i64 0] 3).alloc _
      H := by
        have := Blk.new (w2.alloc (.cells #[.int .i64 0] 3)) (headC 0 0 0 0 0) THead
        rw [World.size_alloc] at this
        exact this
      bel := (Q2.out.alloc Q2.out.size _).alloc (Q2.out.alloc Q2.out.size _).size _
      lt := hlt }
  clear B2 S2 Q2
  go_wp2_with fail
  generalize w2.heap.size = B at *
  have hlB : w.heap.size ≤ B + 1 := by omega
  refine (take_step w _ s B 0 2 2 a _ _ _ _ _ D0 (by decide) (by omega) (by omega) ha rfl).mono ?_
  rintro r w3 ⟨rfl, D1⟩
  clear D0
  go_wp2_with fail
  refine (take_step w _ s B 2 4 2 b _ _ _ _ _ D1 (by decide) (by omega) (by omega) hb rfl).mono ?_
  rintro r w4 ⟨rfl, D2⟩
  clear D1
  go_wp2_with fail
  refine (take_step w _ s B 4 6 2 c _ _ _ _ _ D2 (by decide) (by omega) (by omega) hcc rfl).mono ?_
  rintro r w5 ⟨rfl, D3⟩
  clear D2
  have c0 := D3.out.H.cell 0 rfl
  have c1 := D3.out.H.cell 1 rfl
  have c2 := D3.out.H.cell 2 rfl
  have f0 := D3.out.H.free 0
  have f1 := D3.out.H.free 1
  have f2 := D3.out.H.free 2
  have D4 : Hid (DecS w (((w5.setCell ⟨B + 1, 0, none⟩ (.int .i64 a)).setCell ⟨B + 1, 1, none⟩ (.int .i64 b)).setCell ⟨B + 1, 2, none⟩ (.int .i64 c)) s B 6 a b c 0 0) := Lib.hid
    { S := ((D3.out.S.other (by omega)).other (by omega)).other (by omega)
      R := ((D3.out.R.other (by omega)).other (by omega)).other (by omega)
      A := ((D3.out.A.other (by omega)).other (by omega)).other (by omega)
      H := ((D3.out.H.set 0 (.int .i64 a)).set 1 (.int .i64 b)).set 2 (.int .i64 c)
      bel := ((D3.out.bel.setCell hlB _).setCell hlB _).setCell hlB _
      lt := hlt }
  clear D3
  go_wp2_with fail
  refine (take_step w _ s B 6 7 1 d _ _ _ _ _ D4 (by decide) (by omega) (by omega) hd rfl).mono ?_
  rintro r w6 ⟨rfl, D5⟩
  clear D4 c0 c1 c2 f0 f1 f2
  go_wp2_with fail
  refine (take_step w _ s B 7 9 2 e _ _ _ _ _ D5 (by decide) (by omega) (by omega) he rfl).mono ?_
  rintro r w7 ⟨rfl, D6⟩
  clear D5
  have c3 := D6.out.H.cell 3 rfl
  have c4 := D6.out.H.cell 4 rfl
  have f3 := D6.out.H.free 3
  have f4 := D6.out.H.free 4
  obtain ⟨w8, hw8⟩ : ∃ w8, (w7.setCell ⟨B + 1, 3, none⟩ (.int .i64 d)).setCell ⟨B + 1, 4, none⟩ (.int .i64 e) = w8 := ⟨_, rfl⟩
  have D7 : Hid (DecS w w8 s B 9 a b c d e) := Lib.hid (by
    rw [← hw8]
    exact { S := (D6.out.S.other (by omega)).other (by omega)
            R := (D6.out.R.other (by omega)).other (by omega)
            A := (D6.out.A.other (by omega)).other (by omega)
            H := (D6.out.H.set 3 (.int .i64 d)).set 4 (.int .i64 e)
            bel := (D6.out.bel.setCell hlB _).setCell hlB _
            lt := hlt })
  have d0 := D7.out.H.cell 0 rfl
  have d1 := D7.out.H.cell 1 rfl
  have d2 := D7.out.H.cell 2 rfl
  have d3 := D7.out.H.cell 3 rfl
  have d4 := D7.out.H.cell 4 rfl
  clear D6
  go_wp2_with fail
  clear hw8
  refine (hcheck_is a b c d e _).mono ?_
  rintro r w9 ⟨rfl, q9⟩
  have R9 := D7.out.R.below q9 D7.out.R.lt
  have H9 := D7.out.H.below q9 D7.out.H.lt
  have d0 := H9.cell 0 rfl
  have d1 := H9.cell 1 rfl
  have d2 := H9.cell 2 rfl
  have d3 := H9.cell 3 rfl
  have d4 := H9.cell 4 rfl
  have c0 := R9.cell 0 rfl
  have c1 := R9.cell 1 rfl
  have c2 := R9.cell 2 rfl
  have c3 := R9.cell 3 rfl
  have c4 := R9.cell 4 rfl
  have f0 := R9.free 0
  have f1 := R9.free 1
  have f2 := R9.free 2
  have f3 := R9.free 3
  have f4 := R9.free 4
  have Q9 : Hid (Below w.heap.size w w9) := Lib.hid (D7.out.bel.trans (q9.mono D7.out.bel.size))
  obtain ⟨g00, g01, g02, g03, g04⟩ := set_five w9 (w.heap.size + 1) _ _ _ _ _ c0 c1 c2 c3 c4
  clear R9 H9 q9 D7
  generalize hE : headE a b c d e = E
  have HE := Lib.hid hE
  clear hE
  by_cases hz : E = 0
  · subst hz
    go_wp2_with fail
    refine bodyPost_ret (by simp [results, Try.results17, go_sem, g00, g01, g02, g03, g04]; try rfl) rfl ?_
    exact ⟨by rw [hdecV, HE.out, if_pos rfl], below_five Q9.out _ (by omega) _ _ _ _ _⟩
  · go_wp2_with fail
    refine bodyPost_ret (by simp [results, Try.results17, go_sem, g00, g01, g02, g03, g04]; try rfl) rfl ?_
    exact ⟨by rw [hdecV, HE.out, if_neg hz], below_five Q9.out _ (by omega) _ _ _ _ _⟩

end Go.Proofs.Ytdipbdoekmcgbaa
