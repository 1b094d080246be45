/-
  aerialref18: Encode, Decode by contract; what any bytes say.
-/
import Derived.Test.YtljdkaajlmcpkaaReport3
import Derived.Test.YtljdkaajlmcpkaaCrcRef
namespace Go.Proofs.Ytljdkaajlmcpkaa
open Go.RowKit

theorem refE (s : ByteArray) (c : Nat) (h : Hid (crcL s.data.toList = c)) (hs : s.size ≤ maxLen) (w : World) : Calls Try.prog 38 #[.string s] w fun e w' => e = .returned (.int .u8 c) ∧ Below w.heap.size w w' := by
  obtain rfl := h.out
  exact (refsum s w hs).mono fun _ _ ⟨he, e2⟩ => ⟨he, by rw [e2]; exact Below.refl _ _⟩

set_option maxRecDepth 100000 in
set_option maxHeartbeats 400000 in
theorem refencode_no (t q x : Int) (hq : 0 ≤ q) (h : repE t q x ≠ 0) (w : World) : Calls Try.prog 24 #[repV t q x] w fun e w' => e = .returned (.tuple #[.string ⟨#[]⟩, .int .i64 (repE t q x)]) ∧ Below w.heap.size w w' := by
  go_enter Try.func24, Try.ntmps24
  go_wp2_with fail
  refine (refcheck_is t q x hq _).mono ?_
  rintro e w1 ⟨rfl, b1⟩
  go_wp2_with fail
  go_returns
  exact ⟨rfl, ((Below.refl _ _).alloc (Nat.le_refl _) _).trans (b1.mono (by simp))⟩

set_option maxRecDepth 100000 in
set_option maxHeartbeats 400000 in
theorem refencode_is (T Q X : Nat) (h1 : T < 8) (h2 : 0 < Q) (h3 : Q < 4294967296) (h4 : X ≤ 10000) (w : World) : Calls Try.prog 24 #[repV T Q ((X : Int) - 5000)] w fun e w' => e = .returned (.tuple #[.string (repB T Q X), .int .i64 0]) ∧ Below w.heap.size w w' := by
  have HE := repE_ok T Q X h1 h2 h4
  go_enter Try.func24, Try.ntmps24
  go_wp2_with fail
  refine (refcheck_is T Q _ (by omega) _).mono ?_
  rw [HE]
  rintro e w1 ⟨rfl, b1⟩
  clear HE
  have B1 : Blk w1 w.heap.size [.int .i64 T, .int .u32 Q, .int .i64 ((X : Int) - 5000)] TRep := (Blk.new w [.int .i64 T, .int .u32 Q, .int .i64 ((X : Int) - 5000)] TRep).below b1 (by simp)
  have c0 := B1.cell 0 rfl
  have c1 := B1.cell 1 rfl
  have c2 := B1.cell 2 rfl
  have b0 : Below w.heap.size w w1 := ((Below.refl _ _).alloc (Nat.le_refl _) _).trans (b1.mono (by simp))
  clear B1 b1
  obtain ⟨w2, hw2⟩ : ∃ w2, w2 = (w1.alloc (.cells (((repN T Q X).map (fun n : Nat => Value.int .u8 n))).toArray 5)).drew := ⟨_, rfl⟩
  have B2 : Blk w2 w1.heap.size ((repN T Q X ++ []).map (fun n : Nat => Value.int .u8 n)) 5 := by rw [hw2, List.append_nil]; exact Blk.new w1 _ _
  have hcv : (convert 23 9 (.slice (some ⟨w1.heap.size, 0, none⟩) 7 7)).run Try.prog (w1.alloc (.cells #[.int .u8 T, .int .u8 ((Q : Int) / 16777216), .int .u8 ((Q : Int) / 65536 % 256), .int .u8 ((Q : Int) / 256 % 256), .int .u8 ((Q : Int) % 256), .int .u8 ((X : Int) / 256), .int .u8 ((X : Int) % 256)] 5)).drew = .ok (.string (repS T Q X)) w2 := by
    have h := conv_nat w2 w1.heap.size (repN T Q X) [] 5 B2 7 7 rfl
    rw [hw2] at h ⊢
    exact h
  have b2 : Below w1.heap.size w1 w2 := by rw [hw2]; exact ((Below.refl _ _).alloc (Nat.le_refl _) _).drew
  clear hw2 B2
  go_upto_region 4 with fail
  go_region
  go_wp2_with fail
  refine (refsum (repS T Q X) _ (by show 7 ≤ maxLen; decide)).mono ?_
  rintro e _ ⟨rfl, rfl⟩
  have hcr := crcL_lt (repL T Q X)
  rw [show (repS T Q X).data.toList = repL T Q X from rfl]
  generalize hc : crcL (repL T Q X) = c at hcr
  have HC := Lib.hid hc
  have hcv2 := conv_one w2 c 1
  have hrb : repS T Q X ++ ⟨#[UInt8.ofNat c]⟩ = repB T Q X := by
    apply ByteArray.ext
    rw [repB, HC.out]
    simp [repS]
  rw [Int.toNat_natCast] at hcv2
  clear hc hcv
  go_wp2_with fail
  go_returns
  exact ⟨rfl, (b0.trans (b2.mono b0.size)).alloc (Nat.le_trans b0.size b2.size) _⟩

set_option maxRecDepth 100000 in
set_option maxHeartbeats 400000 in
theorem refdecode_form (s : ByteArray) (h : s.size ≠ 8) (w : World) : Calls Try.prog 29 #[.string s] w fun e w' => e = .returned (.tuple #[repV 0 0 0, .int .i64 4]) ∧ Below w.heap.size w w' := by
  have h' : ¬ ((s.size : Int) = 8) := by omega
  go_enter Try.func29, Try.ntmps29
  go_wp2
  go_returns
  exact ⟨rfl, (Below.refl _ _).alloc (Nat.le_refl _) _⟩
set_option maxRecDepth 100000 in
set_option maxHeartbeats 400000 in
theorem refdecode_sum (s : ByteArray) (c d : Nat) (hs : s.size = 8) (hc : Hid (crcL (s.extract 0 7).data.toList = c)) (hd : s[7].toNat = d) (h : c ≠ d) (w : World) : Calls Try.prog 29 #[.string s] w fun e w' => e = .returned (.tuple #[repV 0 0 0, .int .i64 10]) ∧ Below w.heap.size w w' := by
  have h' : ¬ ((c : Int) = d) := by omega
  have h8 : (s.size : Int) = 8 := by omega
  have h7 : (7 : Int) < s.size := by omega
  have h77 : 7 < s.size := by omega
  have hx : (s.extract 0 7).size ≤ maxLen := by simp [maxLen]; omega
  obtain ⟨w1, hw1, B1, q1⟩ := rep_new w
  go_enter Try.func29, Try.ntmps29
  go_upto_region 3 with fail
  clear hw1
  have hne : Nonempty (WIn (Below w1.heap.size w1)) := ⟨⟨w1, Below.refl _ _⟩⟩
  refine wp_region_inv (Below w1.heap.size w1) (by kernel_rfl) (by kernel_rfl) (Below.refl _ _).drew ?_
  repeat (go_big_quiet_step ((go_at_call 38; exact quiet_call _ (refE _ c hc hx _))))
  refine wpQuiet_nil ?_
  intro w2 q2
  have B2 := B1.out.below q2 B1.out.lt
  have c0 := B2.cell 0 rfl
  have c1 := B2.cell 1 rfl
  have c2 := B2.cell 2 rfl
  have f0 := B2.free 0
  have f1 := B2.free 1
  have f2 := B2.free 2
  have HB2 := Lib.hid B2
  have Q2 : Hid (Below w.heap.size w w2) := Lib.hid (q1.out.trans (q2.mono q1.out.size))
  clear B2 q2
  have g0 := set_three w2 w.heap.size _ _ _ c0 c1 c2
  have g00 := g0.1
  have g01 := g0.2.1
  have g02 := g0.2.2
  clear g0
  go_wp2_with fail
  refine bodyPost_ret (by simp [results, Try.results29, go_sem, g00, g01, g02]; try rfl) rfl ?_
  exact ⟨rfl, (((Q2.out.setCell (Nat.le_refl _) _).setCell (Nat.le_refl _) _).setCell (Nat.le_refl _) _)⟩

set_option maxRecDepth 100000 in
set_option maxHeartbeats 800000 in
theorem refdecode_any (s : ByteArray) (c b0 b1 b2 b3 b4 b5 b6 T Q X : Nat) (hs : s.size = 8) (hc : Hid (crcL (s.extract 0 7).data.toList = c)) (h : s[7].toNat = c)
    (i0 : s[0].toNat = b0) (i1 : s[1].toNat = b1) (i2 : s[2].toNat = b2) (i3 : s[3].toNat = b3) (i4 : s[4].toNat = b4) (i5 : s[5].toNat = b5) (i6 : s[6].toNat = b6)
    (l0 : b0 < 256) (l1 : b1 < 256) (l2 : b2 < 256) (l3 : b3 < 256) (l4 : b4 < 256) (l5 : b5 < 256) (l6 : b6 < 256)
    (hT : Hid (b0 = T)) (hQ : Hid (((b1 * 256 + b2) * 256 + b3) * 256 + b4 = Q)) (hX : Hid (b5 * 256 + b6 = X)) (w : World) :
    Calls Try.prog 29 #[.string s] w fun e w' => e = .returned (.tuple #[decV T Q X, .int .i64 (repE T Q ((X : Int) - 5000))]) ∧ Below w.heap.size w w' := by
  have h8 : (s.size : Int) = 8 := by omega
  have h7 : (7 : Int) < s.size := by omega
  have h77 : 7 < s.size := by omega
  have h70 : (0 : Int) < s.size := by omega
  have h71 : (1 : Int) < s.size := by omega
  have h72 : (2 : Int) < s.size := by omega
  have h73 : (3 : Int) < s.size := by omega
  have h74 : (4 : Int) < s.size := by omega
  have h75 : (5 : Int) < s.size := by omega
  have h76 : (6 : Int) < s.size := by omega
  have j0 : 0 < s.size := by omega
  have j1 : 1 < s.size := by omega
  have j2 : 2 < s.size := by omega
  have j3 : 3 < s.size := by omega
  have j4 : 4 < s.size := by omega
  have j5 : 5 < s.size := by omega
  have j6 : 6 < s.size := by omega
  have hx : (s.extract 0 7).size ≤ maxLen := by simp [maxLen]; omega
  obtain ⟨w1, hw1, B1, q1⟩ := rep_new w
  go_enter Try.func29, Try.ntmps29
  go_upto_region 3 with fail
  clear hw1
  have hne : Nonempty (WIn (Below w1.heap.size w1)) := ⟨⟨w1, Below.refl _ _⟩⟩
  refine wp_region_inv (Below w1.heap.size w1) (by kernel_rfl) (by kernel_rfl) (Below.refl _ _).drew ?_
  repeat (go_big_quiet_step ((go_at_call 38; exact quiet_call _ (refE _ c hc hx _))))
  refine wpQuiet_nil ?_
  intro w2 q2
  have B2 := B1.out.below q2 B1.out.lt
  have HB2 := Lib.hid B2
  have Q2 : Hid (Below w.heap.size w w2) := Lib.hid (q1.out.trans (q2.mono q1.out.size))
  clear B2 q2 B1 q1 hne
  obtain rfl := hT.out
  have hQI : (((b1 : Int) * 256 + b2) * 256 + b3) * 256 + b4 = (Q : Int) := by rw [← hQ.out]; push_cast; rfl
  have hXI : (b5 : Int) * 256 + b6 = (X : Int) := by rw [← hX.out]; push_cast; rfl
  have hQ1 : (Q : Int) < 4294967296 := by omega
  have hX1 : (X : Int) < 65536 := by omega
  go_upto_region 5 with fail
  go_region
  go_upto_region 6 with fail
  go_region
  clear hQI hXI hQ1 hX1
  obtain ⟨w3, hw3⟩ : ∃ w3, (w2.alloc (.cells #[.int .i64 b0, .int .u32 Q, .int .i64 ((X : Int) - 5000)] TRep)).drew.drew = w3 := ⟨_, rfl⟩
  have B3 : Blk w3 w2.heap.size [.int .i64 b0, .int .u32 Q, .int .i64 ((X : Int) - 5000)] TRep := by rw [← hw3]; exact Blk.new w2 _ _
  have B2 : Blk w3 w.heap.size [.int .i64 0, .int .u32 0, .int .i64 0] TRep := by rw [← hw3]; exact HB2.out.alloc _
  have q3 : Below w.heap.size w w3 := by rw [← hw3]; exact (Q2.out.alloc Q2.out.size _).drew.drew
  rw [hw3]
  clear hw3 HB2 Q2
  have d0 := B3.cell 0 rfl
  have d1 := B3.cell 1 rfl
  have d2 := B3.cell 2 rfl
  have HB3 := Lib.hid B3
  have HB2 := Lib.hid B2
  have Q3 := Lib.hid q3
  clear B3 B2 q3
  go_wp2_with fail
  refine (refcheck_is b0 Q ((X : Int) - 5000) (by omega) _).mono ?_
  rintro e w4 ⟨rfl, b4⟩
  have B4 := HB2.out.below b4 HB2.out.lt
  have D4 := HB3.out.below b4 HB3.out.lt
  have c0 := B4.cell 0 rfl
  have c1 := B4.cell 1 rfl
  have c2 := B4.cell 2 rfl
  have f0 := B4.free 0
  have f1 := B4.free 1
  have f2 := B4.free 2
  have d0 := D4.cell 0 rfl
  have d1 := D4.cell 1 rfl
  have d2 := D4.cell 2 rfl
  have g0 := set_three w4 w.heap.size _ _ _ c0 c1 c2
  have g00 := g0.1
  have g01 := g0.2.1
  have g02 := g0.2.2
  have Q4 : Hid (Below w.heap.size w w4) := Lib.hid (Q3.out.trans (b4.mono Q3.out.size))
  clear B4 D4 b4 g0
  generalize hE : repE b0 Q ((X : Int) - 5000) = E
  have HE := Lib.hid hE
  clear hE
  by_cases he : E = 0
  · subst he
    go_wp2_with fail
    refine bodyPost_ret (by simp [results, Try.results29, go_sem, g00, g01, g02]; try rfl) rfl ?_
    exact ⟨by rw [decV, HE.out, if_pos rfl], (((Q4.out.setCell (Nat.le_refl _) _).setCell (Nat.le_refl _) _).setCell (Nat.le_refl _) _)⟩
  · go_wp2_with fail
    refine bodyPost_ret (by simp [results, Try.results29, go_sem, g00, g01, g02]; try rfl) rfl ?_
    exact ⟨by rw [decV, HE.out, if_neg he], (((Q4.out.setCell (Nat.le_refl _) _).setCell (Nat.le_refl _) _).setCell (Nat.le_refl _) _)⟩

/-- What any bytes say. -/
def decode (s : ByteArray) : Value × Int :=
  if s.size ≠ 8 then (repV 0 0 0, 4)
  else if crcL (s.extract 0 7).data.toList ≠ (s.data.toList.getD 7 0).toNat then (repV 0 0 0, 10)
  else (decV (numL (s.extract 0 1).data.toList) (numL (s.extract 1 5).data.toList) (numL (s.extract 5 7).data.toList), repE (numL (s.extract 0 1).data.toList) (numL (s.extract 1 5).data.toList) ((numL (s.extract 5 7).data.toList : Int) - 5000))
theorem decode_is (s : ByteArray) (w : World) : Calls Try.prog 28 #[.string s] w fun e w' => e = .returned (.tuple #[(decode s).1, .int .i64 (decode s).2]) ∧ Below w.heap.size w w' := by
  unfold decode
  by_cases h8 : s.size = 8
  · rw [if_neg (by simpa using h8)]
    have e7 : (s.data.toList.getD 7 0).toNat = (s[7]'(by omega)).toNat := by
      rw [List.getD_eq_getElem?_getD, List.getElem?_eq_getElem (by rw [len_bytes]; omega)]
      rfl
    by_cases hc : crcL (s.extract 0 7).data.toList = (s.data.toList.getD 7 0).toNat
    · rw [if_neg (by simpa using hc)]
      refine decode_any s _ _ _ _ h8 (Lib.hid rfl) (by rw [hc, e7]) _ _ _ rfl rfl rfl (Lib.hid rfl) (Lib.hid rfl) (Lib.hid rfl) ?_ ?_ w
      · have := numL_lt (s.extract 1 5).data.toList
        have h : (256 : Nat) ^ (s.extract 1 5).data.toList.length ≤ 256 ^ 4 := Nat.pow_le_pow_right (by omega) (by rw [len_bytes]; simp; omega)
        omega
      · have := numL_lt (s.extract 5 7).data.toList
        have h : (256 : Nat) ^ (s.extract 5 7).data.toList.length ≤ 256 ^ 2 := Nat.pow_le_pow_right (by omega) (by rw [len_bytes]; simp; omega)
        omega
    · rw [if_pos hc]
      exact decode_sum s _ _ h8 (Lib.hid rfl) e7.symm hc w
  · rw [if_pos h8]
    exact decode_form s h8 w
theorem refdecode_is (s : ByteArray) (w : World) : Calls Try.prog 29 #[.string s] w fun e w' => e = .returned (.tuple #[(decode s).1, .int .i64 (decode s).2]) ∧ Below w.heap.size w w' := by
  unfold decode
  by_cases h8 : s.size = 8
  · rw [if_neg (by simpa using h8)]
    have e7 : (s.data.toList.getD 7 0).toNat = (s[7]'(by omega)).toNat := by
      rw [List.getD_eq_getElem?_getD, List.getElem?_eq_getElem (by rw [len_bytes]; omega)]
      rfl
    by_cases hc : crcL (s.extract 0 7).data.toList = (s.data.toList.getD 7 0).toNat
    · rw [if_neg (by simpa using hc)]
      rw [e7] at hc
      obtain ⟨b0, b1, b2, b3, b4, b5, b6, b7, rfl⟩ := str8 s h8
      refine refdecode_any (S8 b0 b1 b2 b3 b4 b5 b6 b7) _ b0.toNat b1.toNat b2.toNat b3.toNat b4.toNat b5.toNat b6.toNat _ _ _ rfl (Lib.hid rfl) (by rw [hc]) rfl rfl rfl rfl rfl rfl rfl b0.toNat_lt b1.toNat_lt b2.toNat_lt b3.toNat_lt b4.toNat_lt b5.toNat_lt b6.toNat_lt (Lib.hid ?_) (Lib.hid ?_) (Lib.hid ?_) w
      · rw [ex01]; simp [numL]
      · rw [ex15]; simp [numL]
      · rw [ex57]; simp [numL]
    · rw [if_pos hc]
      exact refdecode_sum s _ _ h8 (Lib.hid rfl) e7.symm hc w
  · rw [if_pos h8]
    exact refdecode_form s h8 w

end Go.Proofs.Ytljdkaajlmcpkaa
