/-
  BucketParts: the walk.
-/
import Derived.Test.YtcknfjchmokboaaBucket
namespace Go.Proofs.Ytcknfjchmokboaa
open Go.RowKit

def upTo (m x : Int) : Int := if m < x then m else x

set_option maxRecDepth 100000 in
set_option maxHeartbeats 1000000 in
theorem parts_walk (s0 s1 n0 n1 t : Int) (w : World) (h0 : 0 ≤ s0 ∧ s0 ≤ 65535) (h1 : 0 ≤ s1 ∧ s1 ≤ 65535) (h2 : 0 ≤ n0 ∧ n0 ≤ 65535) (h3 : 0 ≤ n1 ∧ n1 ≤ 65535) (h4 : 0 ≤ t ∧ t ≤ 255) :
    Calls Try.prog 12 #[.agg #[.int .u16 s0, .int .u16 s1], .agg #[.int .u16 n0, .int .u16 n1], .int .u8 t] w fun e w' => e = .returned (.bool true) ∧ Below w.heap.size w w' := by
  obtain ⟨h01, h02⟩ := h0
  obtain ⟨h11, h12⟩ := h1
  obtain ⟨h21, h22⟩ := h2
  obtain ⟨h31, h32⟩ := h3
  obtain ⟨h41, h42⟩ := h4
  go_enter Try.func12, Try.ntmps12
  go_wp2_with fail
  have c30 := new_cell2 w #[.int .u16 s0, .int .u16 s1] 44 0 (.int .u16 s0) (.cells #[.int .u16 n0, .int .u16 n1] 44) rfl
  have c31 := new_cell2 w #[.int .u16 s0, .int .u16 s1] 44 1 (.int .u16 s1) (.cells #[.int .u16 n0, .int .u16 n1] 44) rfl
  have c40 : ((w.alloc (.cells #[.int .u16 s0, .int .u16 s1] 44)).alloc (.cells #[.int .u16 n0, .int .u16 n1] 44)).cell? ⟨w.heap.size + 1, 0, none⟩ = some (.int .u16 n0) := by
    have h := new_cell (w.alloc (.cells #[.int .u16 s0, .int .u16 s1] 44)) #[.int .u16 n0, .int .u16 n1] 44 0 (.int .u16 n0) rfl
    rwa [World.size_alloc] at h
  have c41 : ((w.alloc (.cells #[.int .u16 s0, .int .u16 s1] 44)).alloc (.cells #[.int .u16 n0, .int .u16 n1] 44)).cell? ⟨w.heap.size + 1, 1, none⟩ = some (.int .u16 n1) := by
    have h := new_cell (w.alloc (.cells #[.int .u16 s0, .int .u16 s1] 44)) #[.int .u16 n0, .int .u16 n1] 44 1 (.int .u16 n1) rfl
    rwa [World.size_alloc] at h
  have hbw : Below w.heap.size w ((w.alloc (.cells #[.int .u16 s0, .int .u16 s1] 44)).alloc (.cells #[.int .u16 n0, .int .u16 n1] 44)) := ((Below.refl _ _).alloc (Nat.le_refl _) _).alloc (by simp) _
  have hsz : w.heap.size + 2 ≤ ((w.alloc (.cells #[.int .u16 s0, .int .u16 s1] 44)).alloc (.cells #[.int .u16 n0, .int .u16 n1] 44)).heap.size := by simp
  generalize (w.alloc (.cells #[.int .u16 s0, .int .u16 s1] 44)).alloc (.cells #[.int .u16 n0, .int .u16 n1] 44) = w1 at *
  have Q1 := Lib.hid hbw
  clear hbw
  go_quiet (fail)
  go_wp2_with fail
  have C40 : Hid ((w1.drewN nq).cell? ⟨w.heap.size + 1, 0, none⟩ = some (.int .u16 n0)) := c40
  have C41 : Hid ((w1.drewN nq).cell? ⟨w.heap.size + 1, 1, none⟩ = some (.int .u16 n1)) := c41
  have Q2 : Hid (Below w.heap.size w (w1.drewN nq)) := ⟨Q1.out.os, Q1.out.tape, Q1.out.output, Q1.out.size, Q1.out.block⟩
  have hsz2 : w.heap.size + 2 ≤ (w1.drewN nq).heap.size := hsz
  clear c30 c31 c40 c41 Q1 hsz
  generalize w1.drewN nq = w2 at *
  refine (bnew_yes (1 + s0) (1 + s1) _ (by omega) (by omega) (by omega) (by omega)).mono ?_
  rintro e w3 ⟨rfl, q3, s3⟩
  have hl3 := s3.lt
  have c40 := (q3.cell (p := ⟨w.heap.size + 1, 0, none⟩) (by show w.heap.size + 1 < _; omega)).trans C40.out
  have c41 := (q3.cell (p := ⟨w.heap.size + 1, 1, none⟩) (by show w.heap.size + 1 < _; omega)).trans C41.out
  have C40 := Lib.hid c40
  have C41 := Lib.hid c41
  have Q3 := Lib.hid (bthen Q2.out q3)
  have S3 := Lib.hid s3
  clear q3 s3 c40 c41
  go_wp2_with fail
  refine (bnew_yes (1 + s0) (1 + s1) _ (by omega) (by omega) (by omega) (by omega)).mono ?_
  rintro e w4 ⟨rfl, q4, s4⟩
  have c40 := (q4.cell (p := ⟨w.heap.size + 1, 0, none⟩) (by show w.heap.size + 1 < _; omega)).trans C40.out
  have c41 := (q4.cell (p := ⟨w.heap.size + 1, 1, none⟩) (by show w.heap.size + 1 < _; omega)).trans C41.out
  have Q4 := Lib.hid (bthen Q3.out q4)
  have SA := Lib.hid (S3.out.below q4 hl3)
  have SB := Lib.hid s4
  obtain ⟨A, hA⟩ : ∃ A, A = w2.heap.size := ⟨_, rfl⟩
  obtain ⟨B, hB⟩ : ∃ B, B = w3.heap.size := ⟨_, rfl⟩
  have hAw : w.heap.size ≤ A := by omega
  have hAB : A < B := by omega
  rw [← hA] at SA ⊢
  rw [← hB] at SB ⊢
  obtain ⟨m, hm⟩ : ∃ m, m = 1 + s0 := ⟨_, rfl⟩
  obtain ⟨r, hr⟩ : ∃ r, r = 1 + s1 := ⟨_, rfl⟩
  obtain ⟨x, hx⟩ : ∃ x, x = 1 + n0 := ⟨_, rfl⟩
  obtain ⟨y, hy⟩ : ∃ y, y = 1 + n1 := ⟨_, rfl⟩
  rw [← hm, ← hr] at SA SB
  have hm' := hm.symm
  have hr' := hr.symm
  have hx' := hx.symm
  have hy' := hy.symm
  have hm1 : 1 ≤ m := by omega
  have hm2 : m ≤ 65536 := by omega
  have hr1 : 1 ≤ r := by omega
  have hr2 : r ≤ 65536 := by omega
  have hx1 : 1 ≤ x := by omega
  have hx2 : x ≤ 65536 := by omega
  have hy1 : 1 ≤ y := by omega
  have hy2 : y ≤ 65536 := by omega
  clear hm hr hx hy q4 s4 C40 C41 hA hB hl3 hsz2 Q3 S3 Q2
  go_wp2_with fail
  go_quiet (fail)
  go_wp2_with fail
  have SA5 : Hid (St3 TB (w4.drewN nq) A m r m) := SA
  have SB5 : Hid (St3 TB (w4.drewN nq) B m r m) := SB
  have Q5 : Hid (Below w.heap.size w (w4.drewN nq)) := ⟨Q4.out.os, Q4.out.tape, Q4.out.output, Q4.out.size, Q4.out.block⟩
  clear SA SB Q4 c40 c41 hm' hr' hx' hy' h01 h02 h11 h12 h21 h22 h31 h32
  generalize w4.drewN nq = w5 at *
  refine (bmay A m r m (x + y) w5 SA5.out).mono ?_
  rintro e _ ⟨rfl, rfl⟩
  by_cases hxy : x + y ≤ m
  case' pos =>
    have hmy : mayB (x + y) m = true := mayB_yes (by omega) hxy
    rw [hmy]
    go_wp2_with fail
    refine (bpay A m r m (x + y) w5 SA5.out (by omega)).mono ?_
    rintro e w6 ⟨rfl, g6, s6⟩
    rw [hmy]
    have hpl : payL (x + y) m = m - (x + y) := by unfold payL; rw [if_pos hmy]
    rw [hpl] at s6
    have SA6 := Lib.hid s6
    have SB6 := Lib.hid (SB5.out.grown g6 (by omega))
    have Q6 := Lib.hid (own_grown Q5.out g6 hAw)
    clear g6 s6 hpl hmy
    go_wp2_with fail
    have hmx : mayB x m = true := mayB_yes hx1 (by omega)
    refine (bpay B m r m x w6 SB6.out (by omega)).mono ?_
    rintro e w7 ⟨rfl, g7, s7⟩
    rw [hmx]
    have hpl : payL x m = m - x := by unfold payL; rw [if_pos hmx]
    rw [hpl] at s7
    have SB7 := Lib.hid s7
    have SA7 := Lib.hid (SA6.out.grown g7 (by omega))
    have Q7 := Lib.hid (own_grown Q6.out g7 (by omega))
    clear g7 s7 hpl hmx
    go_wp2_with fail
    have hmz : mayB y (m - x) = true := mayB_yes hy1 (by omega)
    refine (bpay B m r (m - x) y w7 SB7.out (by omega)).mono ?_
    rintro e w8 ⟨rfl, g8, s8⟩
    rw [hmz]
    have hpl : payL y (m - x) = m - (x + y) := by unfold payL; rw [if_pos hmz]; omega
    rw [hpl] at s8
    have SB8 := Lib.hid s8
    have SA8 := Lib.hid (SA7.out.grown g8 (by omega))
    have Q8 := Lib.hid (own_grown Q7.out g8 (by omega))
    clear g8 s8 hpl hmz
    go_wp2_with fail
    refine (bleft A m r (m - (x + y)) w8 SA8.out).mono ?_
    rintro e _ ⟨rfl, rfl⟩
    go_wp2_with fail
    refine (bleft B m r (m - (x + y)) w8 SB8.out).mono ?_
    rintro e _ ⟨rfl, rfl⟩
    go_wp2_with fail
    refine (bleft A m r (m - (x + y)) w8 SA8.out).mono ?_
    rintro e _ ⟨rfl, rfl⟩
    obtain ⟨hd, hhd⟩ : ∃ hd, hd = m - (x + y) := ⟨_, rfl⟩
    rw [← hhd] at SA8 ⊢
    have SA9 := SA8
    have Q9 := Q8
    clear SA8 Q8 SB8 SA7 SB7 Q7 SA6 SB6 Q6 SA5 SB5 Q5
    have hh0 : 0 ≤ hd := by omega
    have hh1 : hd ≤ m := by omega
    clear hhd
  case' neg =>
    have hmy : mayB (x + y) m = false := mayB_no (by omega)
    rw [hmy]
    go_wp2_with fail
    refine (bpay A m r m (x + y) w5 SA5.out (by omega)).mono ?_
    rintro e w8 ⟨rfl, g6, s6⟩
    rw [hmy]
    have hpl : payL (x + y) m = m := by unfold payL; rw [hmy]; rfl
    rw [hpl] at s6
    have SA9 := Lib.hid s6
    have Q9 := Lib.hid (own_grown Q5.out g6 hAw)
    clear g6 s6 hpl hmy SA5 SB5 Q5
    go_wp2_with fail
    refine (bleft A m r m w8 SA9.out).mono ?_
    rintro e _ ⟨rfl, rfl⟩
    have hh0 : 0 ≤ m := by omega
    have hh1 : m ≤ m := by omega
  · go_wp2_with fail
    have hT0 : 0 ≤ t % 200 := by omega
    have hT1 : t % 200 < 200 := by omega
    go_loopw [14] (fun i wr => ∃ (k : Nat) (p l : Int), (k : Int) ≤ t % 200 ∧ i = .int .i64 k ∧ Hid (p = r * k) ∧ 0 ≤ p ∧ p ≤ 65536 * k ∧ Hid (l = upTo m (m + p)) ∧ 0 ≤ l ∧ l ≤ m ∧ Hid (St3 TB wr A m r l) ∧ Hid (Below w.heap.size w wr)) (fun i _ => 200 - (intOf i).toNat)
    case atStart => exact ⟨0, 0, m, by omega, rfl, Lib.hid (by simp), by omega, by omega, Lib.hid (by unfold upTo; rw [if_neg (by omega), Int.add_zero]), by omega, by omega, SA9, Q9⟩
    case round =>
      obtain ⟨k, p, l, hk, rfl, Hp, hp0, hp1, Hl, hl0, hl1, S, Q⟩ := hrel
      clear SA9 Q9
      by_cases hlt : (k : Int) < t % 200
      · go_wp2_with fail
        refine (btick A m r l wr S.out (by omega) (by omega)).mono ?_
        rintro e w9 ⟨rfl, g, s⟩
        have S9 := Lib.hid s
        have Q9 := Lib.hid (own_grown Q.out g hAw)
        clear s g
        go_wp2_with fail
        have hpr : r * ((k + 1 : Nat) : Int) = p + r := by rw [Hp.out]; simp only [Int.natCast_add, Int.mul_add]; omega
        refine ⟨⟨k + 1, p + r, tickL m r l, by omega, by go_num, Lib.hid hpr.symm, by omega, by omega, ?_, ?_, ?_, S9, Q9⟩, by simp [intOf]; omega⟩
        · refine Lib.hid ?_
          have h := Hl.out
          unfold upTo at *
          unfold tickL
          split at h <;> split <;> split <;> omega
        · unfold tickL; split <;> omega
        · unfold tickL; split <;> omega
      · go_wp2_with fail
        refine (bleft A m r l wr S.out).mono ?_
        rintro e _ ⟨rfl, rfl⟩
        obtain ⟨q, hq⟩ : ∃ q, r * (t % 200) = q := ⟨_, rfl⟩
        have hqp : q = p := by rw [← hq, Hp.out]; congr 1; omega
        have hq0 : 0 ≤ q := by omega
        have hq1 : q ≤ 65536 * 200 := by omega
        have HQ := Lib.hid hqp
        clear hqp
        by_cases hmq : m < m + q
        · have hlm : l = m := by rw [Hl.out]; unfold upTo; rw [if_pos (by have := HQ.out; omega)]
          have HL := Lib.hid hlm
          clear hlm
          rw [HL.out]
          go_wp2_with fail
          refine (works21 _).mono ?_
          rintro e w9 ⟨rfl, q9⟩
          go_wp2_with fail
          go_returns
          exact ⟨rfl, bthen Q.out q9⟩
        · have hlm : l = m + q := by rw [Hl.out]; unfold upTo; rw [if_neg (by have := HQ.out; omega)]; have := HQ.out; omega
          have HL := Lib.hid hlm
          clear hlm
          rw [HL.out]
          go_wp2_with fail
          refine (works21 _).mono ?_
          rintro e w9 ⟨rfl, q9⟩
          go_wp2_with fail
          go_returns
          exact ⟨rfl, bthen Q.out q9⟩
  · go_wp2_with fail
    have hT0 : 0 ≤ t % 200 := by omega
    have hT1 : t % 200 < 200 := by omega
    go_loopw [14] (fun i wr => ∃ (k : Nat) (p l : Int), (k : Int) ≤ t % 200 ∧ i = .int .i64 k ∧ Hid (p = r * k) ∧ 0 ≤ p ∧ p ≤ 65536 * k ∧ Hid (l = upTo m (hd + p)) ∧ 0 ≤ l ∧ l ≤ m ∧ Hid (St3 TB wr A m r l) ∧ Hid (Below w.heap.size w wr)) (fun i _ => 200 - (intOf i).toNat)
    case atStart => exact ⟨0, 0, hd, by omega, rfl, Lib.hid (by simp), by omega, by omega, Lib.hid (by unfold upTo; rw [if_neg (by omega), Int.add_zero]), by omega, by omega, SA9, Q9⟩
    case round =>
      obtain ⟨k, p, l, hk, rfl, Hp, hp0, hp1, Hl, hl0, hl1, S, Q⟩ := hrel
      clear SA9 Q9
      by_cases hlt : (k : Int) < t % 200
      · go_wp2_with fail
        refine (btick A m r l wr S.out (by omega) (by omega)).mono ?_
        rintro e w9 ⟨rfl, g, s⟩
        have S9 := Lib.hid s
        have Q9 := Lib.hid (own_grown Q.out g hAw)
        clear s g
        go_wp2_with fail
        have hpr : r * ((k + 1 : Nat) : Int) = p + r := by rw [Hp.out]; simp only [Int.natCast_add, Int.mul_add]; omega
        refine ⟨⟨k + 1, p + r, tickL m r l, by omega, by go_num, Lib.hid hpr.symm, by omega, by omega, ?_, ?_, ?_, S9, Q9⟩, by simp [intOf]; omega⟩
        · refine Lib.hid ?_
          have h := Hl.out
          unfold upTo at *
          unfold tickL
          split at h <;> split <;> split <;> omega
        · unfold tickL; split <;> omega
        · unfold tickL; split <;> omega
      · go_wp2_with fail
        refine (bleft A m r l wr S.out).mono ?_
        rintro e _ ⟨rfl, rfl⟩
        obtain ⟨q, hq⟩ : ∃ q, r * (t % 200) = q := ⟨_, rfl⟩
        have hqp : q = p := by rw [← hq, Hp.out]; congr 1; omega
        have hq0 : 0 ≤ q := by omega
        have hq1 : q ≤ 65536 * 200 := by omega
        have HQ := Lib.hid hqp
        clear hqp
        by_cases hmq : m < hd + q
        · have hlm : l = m := by rw [Hl.out]; unfold upTo; rw [if_pos (by have := HQ.out; omega)]
          have HL := Lib.hid hlm
          clear hlm
          rw [HL.out]
          go_wp2_with fail
          refine (works21 _).mono ?_
          rintro e w9 ⟨rfl, q9⟩
          go_wp2_with fail
          go_returns
          exact ⟨rfl, bthen Q.out q9⟩
        · have hlm : l = hd + q := by rw [Hl.out]; unfold upTo; rw [if_neg (by have := HQ.out; omega)]; have := HQ.out; omega
          have HL := Lib.hid hlm
          clear hlm
          rw [HL.out]
          go_wp2_with fail
          refine (works21 _).mono ?_
          rintro e w9 ⟨rfl, q9⟩
          go_wp2_with fail
          go_returns
          exact ⟨rfl, bthen Q.out q9⟩

end Go.Proofs.Ytcknfjchmokboaa
