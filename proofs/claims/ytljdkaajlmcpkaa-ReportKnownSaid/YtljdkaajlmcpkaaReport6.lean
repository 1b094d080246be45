/-
  ReportLays, ReportReads, ReportUnlike: the walks.
-/
import Derived.Test.YtljdkaajlmcpkaaReport5
namespace Go.Proofs.Ytljdkaajlmcpkaa
open Go.RowKit

theorem rcE (t q x k : Int) (hq : 0 ≤ q) (h : Hid (repE t q x = k)) (w : World) : Calls Try.prog 26 #[repV t q x] w fun e w' => e = .returned (.int .i64 k) ∧ Below w.heap.size w w' := by
  obtain rfl := h.out
  exact refcheck_is t q x hq w
theorem chE (t q x k : Int) (h : Hid (repE t q x = k)) (w : World) : Calls Try.prog 25 #[repV t q x] w fun e w' => e = .returned (.int .i64 k) ∧ Below w.heap.size w w' := by
  obtain rfl := h.out
  exact check_is t q x w
theorem encode_err (t q x : Int) : (encode t q x).2 = repE t q x := by
  unfold encode
  split
  · rename_i h
    exact h.symm
  · rfl

set_option maxRecDepth 100000 in
set_option maxHeartbeats 800000 in
theorem reportLays_walk (t q x : Int) (hq0 : 0 ≤ q) (hq : q < 4294967296) (w : World) : Calls Try.prog 5 #[repV t q x] w fun e w' => e = .returned (.bool true) ∧ Below w.heap.size w w' := by
  obtain ⟨S, k, hen⟩ : ∃ S k, encode t q x = (S, k) := ⟨_, _, rfl⟩
  have hk : Hid (repE t q x = k) := Lib.hid (by rw [← encode_err, hen])
  have HEN := Lib.hid hen
  clear hen
  have henc := encode_spec t q x hq
  have hrenc := refencode_spec t q x hq0 hq
  rw [HEN.out] at henc hrenc
  have H1 := Lib.hid henc
  have H2 := Lib.hid hrenc
  clear henc hrenc
  obtain ⟨w1, hw1⟩ : ∃ w1, w.alloc (.cells #[.int .i64 t, .int .u32 q, .int .i64 x] TRep) = w1 := ⟨_, rfl⟩
  have B1 : Hid (Blk w1 w.heap.size [.int .i64 t, .int .u32 q, .int .i64 x] TRep) := Lib.hid (by rw [← hw1]; exact Blk.new w [.int .i64 t, .int .u32 q, .int .i64 x] TRep)
  have b1 : Hid (Below w.heap.size w w1) := Lib.hid (by rw [← hw1]; exact (Below.refl _ _).alloc (Nat.le_refl _) _)
  have c0 := B1.out.cell 0 rfl
  have c1 := B1.out.cell 1 rfl
  have c2 := B1.out.cell 2 rfl
  go_enter Try.func5, Try.ntmps5
  go_wp2_with fail
  clear hw1
  refine (H1.out _).mono ?_
  rintro e w2 ⟨rfl, q2⟩
  have B2 := Lib.hid (B1.out.below q2 B1.out.lt)
  have b2 : Hid (Below w.heap.size w w2) := Lib.hid (b1.out.trans (q2.mono b1.out.size))
  have c0 := B2.out.cell 0 rfl
  have c1 := B2.out.cell 1 rfl
  have c2 := B2.out.cell 2 rfl
  clear q2 B1 b1
  go_wp2_with fail
  refine (H2.out _).mono ?_
  rintro e w3 ⟨rfl, q3⟩
  have B3 := Lib.hid (B2.out.below q3 B2.out.lt)
  have b3 : Hid (Below w.heap.size w w3) := Lib.hid (b2.out.trans (q3.mono b2.out.size))
  clear q3 B2 b2
  go_upto_region 3 with fail
  have hi0 : ∀ y : WIn (Below w3.heap.size w3), y.val.cell? ⟨w.heap.size, 0, none⟩ = some (.int .i64 t) := fun y => (B3.out.below y.property B3.out.lt).cell 0 rfl
  have hi1 : ∀ y : WIn (Below w3.heap.size w3), y.val.cell? ⟨w.heap.size, 1, none⟩ = some (.int .u32 q) := fun y => (B3.out.below y.property B3.out.lt).cell 1 rfl
  have hi2 : ∀ y : WIn (Below w3.heap.size w3), y.val.cell? ⟨w.heap.size, 2, none⟩ = some (.int .i64 x) := fun y => (B3.out.below y.property B3.out.lt).cell 2 rfl
  have hne : Nonempty (WIn (Below w3.heap.size w3)) := ⟨⟨w3, Below.refl _ _⟩⟩
  refine wp_region_inv (Below w3.heap.size w3) (by kernel_rfl) (by kernel_rfl) (Below.refl _ _).drew ?_
  repeat (go_big_quiet_step (first
    | (go_at_call 25; exact quiet_call _ (chE t q x k hk _))
    | (go_at_call 26; exact quiet_call _ (rcE t q x k hq0 hk _))
    | (go_at_call 27; exact quiet_call _ (works18 _))))
  refine wpQuiet_nil ?_
  intro w4 q4
  go_wp2_with fail
  go_returns
  exact ⟨rfl, b3.out.trans (q4.mono b3.out.size)⟩

theorem min_to (a b : Nat) : ∃ m : Nat, (if b < a then (b : Int) else (a : Int)) = m ∧ (m : Int) ≤ a ∧ m ≤ a ∧ m ≤ b := by
  by_cases h : b < a
  · exact ⟨b, by rw [if_pos h], by omega, by omega, by omega⟩
  · exact ⟨a, by rw [if_neg h], by omega, by omega, by omega⟩
theorem dcE (s : ByteArray) (v : Value) (k : Int) (h : Hid (decode s = (v, k))) (w : World) : Calls Try.prog 28 #[.string s] w fun e w' => e = .returned (.tuple #[v, .int .i64 k]) ∧ Below w.heap.size w w' := decE s v k h.out w
theorem rdE (s : ByteArray) (v : Value) (k : Int) (h : Hid (decode s = (v, k))) (w : World) : Calls Try.prog 29 #[.string s] w fun e w' => e = .returned (.tuple #[v, .int .i64 k]) ∧ Below w.heap.size w w' := by
  have := refdecode_is s w
  rw [h.out] at this
  exact this
theorem decode_has (s : ByteArray) : ∃ t q x k, Hid (decode s = (repV t q x, k)) := by
  obtain ⟨t, q, x, h⟩ := decode_form' s
  exact ⟨t, q, x, (decode s).2, Lib.hid (by rw [← h])⟩

set_option maxRecDepth 100000 in
set_option maxHeartbeats 800000 in
theorem reportReads_walk (s : ByteArray) (w : World) : Calls Try.prog 6 #[.string s] w fun e w' => e = .returned (.bool true) ∧ Below w.heap.size w w' := by
  by_cases hs : (s.size : Int) ≤ 100
  · obtain ⟨S, hS⟩ : ∃ S, s = S := ⟨_, rfl⟩
    subst hS
    obtain ⟨t, q, x, k, hd⟩ := decode_has s
    go_enter Try.func6, Try.ntmps6
    go_wp2_with fail
    refine (dcE s _ _ hd _).mono ?_
    rintro e w1 ⟨rfl, q1⟩
    go_upto_region 3 with fail
    generalize hw2 : w1.alloc _ = w2
    have B2 : Hid (Blk w2 w1.heap.size [.int .i64 t, .int .u32 q, .int .i64 x] TRep) := Lib.hid (by rw [← hw2]; exact Blk.new w1 [.int .i64 t, .int .u32 q, .int .i64 x] TRep)
    have b2 : Hid (Below w.heap.size w w2) := Lib.hid (by rw [← hw2]; exact q1.alloc q1.size _)
    clear hw2
    go_wp2_with fail
    refine (rdE s _ _ hd _).mono ?_
    rintro e w3 ⟨rfl, q3⟩
    have B3 := Lib.hid (B2.out.below q3 B2.out.lt)
    have b3 : Hid (Below w.heap.size w w3) := Lib.hid (b2.out.trans (q3.mono b2.out.size))
    have c0 := (B3.out.alloc (.cells #[.int .i64 t, .int .u32 q, .int .i64 x] TRep)).cell 0 rfl
    have c1 := (B3.out.alloc (.cells #[.int .i64 t, .int .u32 q, .int .i64 x] TRep)).cell 1 rfl
    have c2 := (B3.out.alloc (.cells #[.int .i64 t, .int .u32 q, .int .i64 x] TRep)).cell 2 rfl
    clear q3 B2 b2 q1
    go_wp2_with fail
    refine (works18 _).mono ?_
    rintro e w4 ⟨rfl, q4⟩
    go_wp2_with fail
    go_returns
    exact ⟨rfl, (b3.out.alloc b3.out.size _).trans (q4.mono (b3.out.alloc b3.out.size _).size)⟩
  · have hs' : (100 : Int) < s.size := by omega
    obtain ⟨S, hS⟩ : ∃ S, s.extract 0 100 = S := ⟨_, rfl⟩
    obtain ⟨t, q, x, k, hd⟩ := decode_has S
    go_enter Try.func6, Try.ntmps6
    go_wp2_with fail
    refine (dcE S _ _ hd _).mono ?_
    rintro e w1 ⟨rfl, q1⟩
    go_upto_region 3 with fail
    generalize hw2 : w1.alloc _ = w2
    have B2 : Hid (Blk w2 w1.heap.size [.int .i64 t, .int .u32 q, .int .i64 x] TRep) := Lib.hid (by rw [← hw2]; exact Blk.new w1 [.int .i64 t, .int .u32 q, .int .i64 x] TRep)
    have b2 : Hid (Below w.heap.size w w2) := Lib.hid (by rw [← hw2]; exact q1.alloc q1.size _)
    clear hw2
    go_wp2_with fail
    refine (rdE S _ _ hd _).mono ?_
    rintro e w3 ⟨rfl, q3⟩
    have B3 := Lib.hid (B2.out.below q3 B2.out.lt)
    have b3 : Hid (Below w.heap.size w w3) := Lib.hid (b2.out.trans (q3.mono b2.out.size))
    have c0 := (B3.out.alloc (.cells #[.int .i64 t, .int .u32 q, .int .i64 x] TRep)).cell 0 rfl
    have c1 := (B3.out.alloc (.cells #[.int .i64 t, .int .u32 q, .int .i64 x] TRep)).cell 1 rfl
    have c2 := (B3.out.alloc (.cells #[.int .i64 t, .int .u32 q, .int .i64 x] TRep)).cell 2 rfl
    clear q3 B2 b2 q1
    go_wp2_with fail
    refine (works18 _).mono ?_
    rintro e w4 ⟨rfl, q4⟩
    go_wp2_with fail
    go_returns
    exact ⟨rfl, (b3.out.alloc b3.out.size _).trans (q4.mono (b3.out.alloc b3.out.size _).size)⟩

end Go.Proofs.Ytljdkaajlmcpkaa
