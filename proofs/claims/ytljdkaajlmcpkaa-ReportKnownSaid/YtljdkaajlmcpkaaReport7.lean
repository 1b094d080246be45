/-
  A report comes back from its bytes; bytes that are taken are laid again just so. ReportUnlike: the walk.
-/
import Derived.Test.YtljdkaajlmcpkaaReport6
namespace Go.Proofs.Ytljdkaajlmcpkaa
open Go.RowKit

theorem repB_as (T Q X : Nat) : repB T Q X = S8 (UInt8.ofNat T) (UInt8.ofNat (Q / 16777216)) (UInt8.ofNat (Q / 65536 % 256)) (UInt8.ofNat (Q / 256 % 256)) (UInt8.ofNat (Q % 256)) (UInt8.ofNat (X / 256)) (UInt8.ofNat (X % 256)) (UInt8.ofNat (crcL (repL T Q X))) := rfl
theorem ofNat_small {n : Nat} (h : n < 256) : (UInt8.ofNat n).toNat = n := by
  rw [UInt8.toNat_ofNat']
  exact Nat.mod_eq_of_lt h
theorem dec_enc (T Q X : Nat) (h1 : T < 8) (h2 : 0 < Q) (h3 : Q < 4294967296) (h4 : X ≤ 10000) : decode (repB T Q X) = (repV T Q ((X : Int) - 5000), 0) := by
  have hc := crcL_lt (repL T Q X)
  have hn1 : numL ((repB T Q X).extract 0 1).data.toList = T := by
    rw [repB_as, ex01]
    show numL [UInt8.ofNat T] = T
    simp only [numL, List.foldl_cons, List.foldl_nil]
    rw [ofNat_small (by omega)]
    omega
  have hn2 : numL ((repB T Q X).extract 1 5).data.toList = Q := by
    rw [repB_as, ex15]
    show numL [UInt8.ofNat (Q / 16777216), UInt8.ofNat (Q / 65536 % 256), UInt8.ofNat (Q / 256 % 256), UInt8.ofNat (Q % 256)] = Q
    simp only [numL, List.foldl_cons, List.foldl_nil]
    rw [ofNat_small (by omega), ofNat_small (by omega), ofNat_small (by omega), ofNat_small (by omega)]
    omega
  have hn3 : numL ((repB T Q X).extract 5 7).data.toList = X := by
    rw [repB_as, ex57]
    show numL [UInt8.ofNat (X / 256), UInt8.ofNat (X % 256)] = X
    simp only [numL, List.foldl_cons, List.foldl_nil]
    rw [ofNat_small (by omega), ofNat_small (by omega)]
    omega
  have h7 : crcL ((repB T Q X).extract 0 7).data.toList = ((repB T Q X).data.toList.getD 7 0).toNat := by
    rw [show (repB T Q X).data.toList.getD 7 0 = UInt8.ofNat (crcL (repL T Q X)) from rfl, ofNat_small hc, repB_as, ex07]
    rfl
  have h8 : (repB T Q X).size = 8 := rfl
  unfold decode decV
  rw [if_neg (by simp [h8]), if_neg (fun h => h h7), hn1, hn2, hn3, repE_ok T Q X h1 h2 h4, if_pos rfl]
theorem decode_encode (t q x : Int) (hq : q < 4294967296) (h : repE t q x = 0) : decode (encode t q x).1 = (repV t q x, 0) := by
  obtain ⟨T, Q, X, e1, e2, e3, l1, l2, l3, e4, e5, e6⟩ := nat_form h
  unfold encode
  rw [if_pos h]
  show decode (repB t.toNat q.toNat (x + 5000).toNat) = _
  rw [e4, e5, e6, e1, e2, e3]
  exact dec_enc T Q X l1 l2 (by omega) l3
theorem encode_size (t q x : Int) (h : repE t q x = 0) : (encode t q x).1.size = 8 := by
  unfold encode
  rw [if_pos h]
  rfl
theorem encode_inj (t q x t' q' x' : Int) (hq : q < 4294967296) (hq' : q' < 4294967296) (h : repE t q x = 0) (h' : repE t' q' x' = 0) (he : (encode t q x).1 = (encode t' q' x').1) : t = t' ∧ q = q' ∧ x = x' := by
  have e1 := decode_encode t q x hq h
  rw [he, decode_encode t' q' x' hq' h'] at e1
  simp at e1
  exact ⟨e1.1.symm, e1.2.1.symm, e1.2.2.symm⟩

set_option maxRecDepth 100000 in
set_option maxHeartbeats 800000 in
theorem reportUnlike_walk (t q x t' q' x' : Int) (hq : q < 4294967296) (hq' : q' < 4294967296) (w : World) : Calls Try.prog 8 #[repV t q x, repV t' q' x'] w fun e w' => e = .returned (.bool true) ∧ Below w.heap.size w w' := by
  obtain ⟨S, k, hen⟩ : ∃ S k, encode t q x = (S, k) := ⟨_, _, rfl⟩
  obtain ⟨S', k', hen'⟩ : ∃ S k, encode t' q' x' = (S, k) := ⟨_, _, rfl⟩
  have hk : Hid (repE t q x = k) := Lib.hid (by rw [← encode_err, hen])
  have hk' : Hid (repE t' q' x' = k') := Lib.hid (by rw [← encode_err, hen'])
  have HEN := Lib.hid hen
  have HEN' := Lib.hid hen'
  have hI : Hid (k = 0 → k' = 0 → S = S' → t = t' ∧ q = q' ∧ x = x') := Lib.hid (fun h1 h2 he => encode_inj t q x t' q' x' hq hq' (by rw [hk.out, h1]) (by rw [hk'.out, h2]) (by rw [hen, hen']; exact he))
  clear hen hen'
  obtain ⟨w1, hw1⟩ : ∃ w1, (w.alloc (.cells #[.int .i64 t, .int .u32 q, .int .i64 x] TRep)).alloc (.cells #[.int .i64 t', .int .u32 q', .int .i64 x'] TRep) = w1 := ⟨_, rfl⟩
  have B1 : Hid (Blk w1 w.heap.size [.int .i64 t, .int .u32 q, .int .i64 x] TRep) := Lib.hid (by rw [← hw1]; exact (Blk.new w [.int .i64 t, .int .u32 q, .int .i64 x] TRep).alloc _)
  have C1 : Hid (Blk w1 (w.heap.size + 1) [.int .i64 t', .int .u32 q', .int .i64 x'] TRep) := Lib.hid (by
    rw [← hw1]
    have := Blk.new (w.alloc (.cells #[.int .i64 t, .int .u32 q, .int .i64 x] TRep)) [.int .i64 t', .int .u32 q', .int .i64 x'] TRep
    rw [World.size_alloc] at this
    exact this)
  have b1 : Hid (Below w.heap.size w w1) := Lib.hid (by rw [← hw1]; exact ((Below.refl _ _).alloc (Nat.le_refl _) _).alloc (by simp) _)
  go_enter Try.func8, Try.ntmps8
  go_wp2_with fail
  clear hw1
  refine (works18 _).mono ?_
  rintro e w2 ⟨rfl, q2⟩
  have B2 := Lib.hid (B1.out.below q2 B1.out.lt)
  have C2 := Lib.hid (C1.out.below q2 C1.out.lt)
  have b2 : Hid (Below w.heap.size w w2) := Lib.hid (b1.out.trans (q2.mono b1.out.size))
  have c0 := B2.out.cell 0 rfl
  have c1 := B2.out.cell 1 rfl
  have c2 := B2.out.cell 2 rfl
  clear q2 B1 b1 C1
  go_wp2_with fail
  refine (encE t q x S k HEN.out hq _).mono ?_
  rintro e w3 ⟨rfl, q3⟩
  have B3 := Lib.hid (B2.out.below q3 B2.out.lt)
  have C3 := Lib.hid (C2.out.below q3 C2.out.lt)
  have b3 : Hid (Below w.heap.size w w3) := Lib.hid (b2.out.trans (q3.mono b2.out.size))
  have d0 := C3.out.cell 0 rfl
  have d1 := C3.out.cell 1 rfl
  have d2 := C3.out.cell 2 rfl
  clear q3 B2 b2 C2 c0 c1 c2
  go_wp2_with fail
  refine (encE t' q' x' S' k' HEN'.out hq' _).mono ?_
  rintro e w4 ⟨rfl, q4⟩
  have B4 := Lib.hid (B3.out.below q4 B3.out.lt)
  have C4 := Lib.hid (C3.out.below q4 C3.out.lt)
  have b4 : Hid (Below w.heap.size w w4) := Lib.hid (b3.out.trans (q4.mono b3.out.size))
  have d0 := C4.out.cell 0 rfl
  have d1 := C4.out.cell 1 rfl
  have d2 := C4.out.cell 2 rfl
  have c0 := B4.out.cell 0 rfl
  have c1 := B4.out.cell 1 rfl
  have c2 := B4.out.cell 2 rfl
  clear q4 B3 b3 C3
  have hlr : ∀ {S T : ByteArray}, S ≠ T → (S.toList == T.toList) = false := fun {S T} h => by
    rw [ByteArray.toList_eq, ByteArray.toList_eq]
    exact beq_eq_false_iff_ne.2 (fun e => h (ByteArray.ext (Array.toList_inj.1 e)))
  by_cases h1 : k = 0
  · by_cases h2 : k' = 0
    · subst h1 h2
      by_cases he : S = S'
      · obtain ⟨rfl, rfl, rfl⟩ := hI.out rfl rfl he
        subst he
        clear hlr
        go_wp2_with fail
        go_returns
        exact ⟨rfl, b4.out⟩
      · have hn : (S.toList == S'.toList) = false := hlr he
        have ht : Hid (¬ (t = t' ∧ q = q' ∧ x = x')) := Lib.hid (fun ⟨e1, e2, e3⟩ => he (by
          have a := HEN.out
          have b := HEN'.out
          rw [e1, e2, e3, b] at a
          injection a with a _
          exact a.symm))
        clear hlr
        go_wp2_with fail
        all_goals (try subst_vars)
        all_goals (go_returns; first | exact ⟨rfl, b4.out⟩ | exact absurd ⟨rfl, rfl, rfl⟩ ht.out)
    · clear hlr
      go_wp2_with fail
      refine (chE t q x k hk _).mono ?_
      rintro e w5 ⟨rfl, q5⟩
      have d0 := (C4.out.below q5 C4.out.lt).cell 0 rfl
      have d1 := (C4.out.below q5 C4.out.lt).cell 1 rfl
      have d2 := (C4.out.below q5 C4.out.lt).cell 2 rfl
      go_wp2_with fail
      refine (chE t' q' x' k' hk' _).mono ?_
      rintro e w6 ⟨rfl, q6⟩
      go_wp2_with fail
      go_returns
      exact ⟨rfl, b4.out.trans ((bthen q5 q6).mono b4.out.size)⟩
  · clear hlr
    go_wp2_with fail
    refine (chE t q x k hk _).mono ?_
    rintro e w5 ⟨rfl, q5⟩
    have d0 := (C4.out.below q5 C4.out.lt).cell 0 rfl
    have d1 := (C4.out.below q5 C4.out.lt).cell 1 rfl
    have d2 := (C4.out.below q5 C4.out.lt).cell 2 rfl
    go_wp2_with fail
    refine (chE t' q' x' k' hk' _).mono ?_
    rintro e w6 ⟨rfl, q6⟩
    go_wp2_with fail
    go_returns
    exact ⟨rfl, b4.out.trans ((bthen q5 q6).mono b4.out.size)⟩

end Go.Proofs.Ytljdkaajlmcpkaa
