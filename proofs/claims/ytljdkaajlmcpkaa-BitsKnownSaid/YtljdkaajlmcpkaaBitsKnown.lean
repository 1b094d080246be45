/-
  BitsKnown: the walk. (Printed by mkknown1.py.)
-/
import Derived.Test.YtljdkaajlmcpkaaBitsCut
import Derived.Test.YtljdkaajlmcpkaaTwo
namespace Go.Proofs.Ytljdkaajlmcpkaa
open Go.RowKit

/-- A writer of the call's own; beside it others that are new. -/
structure KW (w0 w : World) (r : Nat) (l : List Bool) (Bs : List Nat) : Prop where
  ex : ∃ v, Wr w r v l ∧ ∀ k, v.ownBlock = some k → w0.heap.size ≤ k ∧ k ∉ Bs
  bel : Below w0.heap.size w0 w
  h1 : w0.heap.size ≤ r
  bs : ∀ b ∈ Bs, Blk w b [.slice none 0 0, .int .i64 0] TWr ∧ b ≠ r ∧ w0.heap.size ≤ b
section
variable {w0 w w' : World} {r : Nat} {l l' : List Bool} {Bs : List Nat}
theorem KW.below (h : KW w0 w r l Bs) (k : Below w.heap.size w w') : KW w0 w' r l Bs := by
  obtain ⟨v, h1, h2⟩ := h.ex
  exact ⟨⟨v, h1.below k, h2⟩, h.bel.trans (k.mono h.bel.size), h.h1, fun b hb => ⟨(h.bs b hb).1.below k (h.bs b hb).1.lt, (h.bs b hb).2⟩⟩
theorem KW.call {f : FuncId} {args : Array Value} {R : Ending → Prop} (h : KW w0 w r l Bs) (hc : ∀ v, Wr w r v l → Calls Try.prog f args w fun e w' => R e ∧ WrTo w r v l' w') : Calls Try.prog f args w fun e w' => R e ∧ Hid (KW w0 w' r l' Bs) := by
  obtain ⟨v, h1, h2⟩ := h.ex
  refine (hc v h1).mono ?_
  rintro e w' ⟨he, v', k1, k2, k3⟩
  have hlt := h.bel.size
  have q1 := h.h1
  refine ⟨he, Lib.hid ⟨⟨v', k1, fun j e => ?_⟩, Wrote.below h.bel k2 (fun i hi => ?_), h.h1, fun b hb => ?_⟩⟩
  · rcases k3 j e with h0 | h0
    · exact h2 j h0
    · exact ⟨by omega, fun hb => by have := (h.bs j hb).1.lt; omega⟩
  · rcases hi with hi | hi
    · omega
    · exact (h2 i hi).1
  · obtain ⟨b1, b2, b3⟩ := h.bs b hb
    refine ⟨b1.kept k2 (fun hp => ?_), b2, b3⟩
    rcases hp with hp | hp
    · exact b2 hp
    · exact (h2 b hp).2 hb
theorem KW.put (h : Hid (KW w0 w r l Bs)) (n b p : Int) (hn : 0 ≤ n ∧ n < 18446744073709551616) (hl : l.length ≤ 100000) (hp : putE n b = p) (hl' : putL l n b = l') :
    Calls Try.prog 13 #[.pointer (some ⟨r, 0, none⟩), .int .u64 n, .int .i64 b] w fun e w' => e = .returned (.int .i64 p) ∧ Hid (KW w0 w' r l' Bs) := by
  subst hp hl'
  exact h.out.call (fun v hv => put_any r v l n b hn w hv hl)
theorem KW.bytes (h : Hid (KW w0 w r l Bs)) (s : ByteArray) (hs : s.size ≤ 1000) (hl : l.length ≤ 50000) (hl' : l ++ ubits s.data.toList = l') :
    Calls Try.prog 19 #[.pointer (some ⟨r, 0, none⟩), .string s] w fun e w' => e = .returned (.int .i64 0) ∧ Hid (KW w0 w' r l' Bs) := by
  subst hl'
  exact h.out.call (fun v hv => wrBytes_is r v l s hs hl w hv)
theorem KW.text (h : Hid (KW w0 w r l Bs)) (S : ByteArray) (hS : S.data.toList = packL l) :
    Calls Try.prog 14 #[.pointer (some ⟨r, 0, none⟩)] w fun e w' => e = .returned (.string S) ∧ Hid (KW w0 w' r l Bs) := by
  obtain ⟨v, h1, h2⟩ := h.out.ex
  exact (wrText_is r v l S hS w h1).mono (fun e w' ⟨e1, e2⟩ => ⟨e1, Lib.hid (h.out.below e2)⟩)
theorem KW.next {r2 : Nat} (h : KW w0 w r l (r2 :: Bs)) (hn : r2 ∉ Bs) : KW w0 w r2 [] Bs := by
  obtain ⟨b1, b2, b3⟩ := h.bs r2 (by simp)
  exact ⟨⟨.slice none 0 0, ⟨b1, Row.nil _ _ _, by simp [Value.ownBlock]⟩, fun k e => by simp [Value.ownBlock] at e⟩, h.bel, b3, fun b hb => ⟨(h.bs b (by simp [hb])).1, fun e => hn (by rw [← e]; exact hb), (h.bs b (by simp [hb])).2.2⟩⟩
end
theorem KW.start (w : World) : KW w (((w.alloc (.cells #[.slice none 0 0, .int .i64 0] TWr)).alloc (.cells #[.slice none 0 0, .int .i64 0] TWr)).alloc (.cells #[.slice none 0 0, .int .i64 0] TWr)) w.heap.size [] [w.heap.size + 1, w.heap.size + 2] := by
  have e1 : (w.alloc (.cells #[.slice none 0 0, .int .i64 0] TWr)).heap.size = w.heap.size + 1 := World.size_alloc _ _
  have e2 : ((w.alloc (.cells #[.slice none 0 0, .int .i64 0] TWr)).alloc (.cells #[.slice none 0 0, .int .i64 0] TWr)).heap.size = w.heap.size + 2 := by rw [World.size_alloc, e1]
  have b1 := Blk.new w [.slice none 0 0, .int .i64 0] TWr
  have b2 := Blk.new (w.alloc (.cells #[.slice none 0 0, .int .i64 0] TWr)) [.slice none 0 0, .int .i64 0] TWr
  have b3 := Blk.new ((w.alloc (.cells #[.slice none 0 0, .int .i64 0] TWr)).alloc (.cells #[.slice none 0 0, .int .i64 0] TWr)) [.slice none 0 0, .int .i64 0] TWr
  rw [e1] at b2
  rw [e2] at b3
  refine ⟨⟨.slice none 0 0, ⟨(b1.alloc _).alloc _, Row.nil _ _ _, by simp [Value.ownBlock]⟩, fun k e => by simp [Value.ownBlock] at e⟩, (((Below.refl _ _).alloc (Nat.le_refl _) _).alloc (by omega) _).alloc (by omega) _, by omega, fun b hb => ?_⟩
  simp only [List.mem_cons, List.not_mem_nil, or_false] at hb
  rcases hb with rfl | rfl
  · exact ⟨b2.alloc _, by omega, by omega⟩
  · exact ⟨b3, by omega, by omega⟩
set_option maxRecDepth 100000 in
set_option maxHeartbeats 400000 in
theorem ntake (k : Int) (w : World) : Calls Try.prog 17 #[.pointer none, .int .i64 k] w fun e w' => e = .returned (.tuple #[.int .u64 0, .int .i64 1]) ∧ Below w.heap.size w w' := by
  go_enter Try.func17, Try.ntmps17
  go_wp2_with fail
  go_returns
  first | exact ⟨rfl, Below.refl _ _⟩ | exact ⟨rfl, (Below.refl _ _).alloc (Nat.le_refl _) _⟩
set_option maxRecDepth 100000 in
set_option maxHeartbeats 400000 in
theorem nbytes (k : Int) (w : World) : Calls Try.prog 32 #[.pointer none, .int .i64 k] w fun e w' => e = .returned (.tuple #[.string ⟨#[]⟩, .int .i64 1]) ∧ Below w.heap.size w w' := by
  go_enter Try.func32, Try.ntmps32
  go_wp2_with fail
  go_returns
  first | exact ⟨rfl, Below.refl _ _⟩ | exact ⟨rfl, (Below.refl _ _).alloc (Nat.le_refl _) _⟩
set_option maxRecDepth 100000 in
set_option maxHeartbeats 400000 in
theorem nleft (w : World) : Calls Try.prog 16 #[.pointer none] w fun e w' => e = .returned (.int .i64 0) ∧ Below w.heap.size w w' := by
  go_enter Try.func16, Try.ntmps16
  go_wp2_with fail
  go_returns
  first | exact ⟨rfl, Below.refl _ _⟩ | exact ⟨rfl, (Below.refl _ _).alloc (Nat.le_refl _) _⟩
set_option maxRecDepth 100000 in
set_option maxHeartbeats 400000 in
theorem nput (n : Int) (k : Int) (w : World) : Calls Try.prog 13 #[.pointer none, .int .u64 n, .int .i64 k] w fun e w' => e = .returned (.int .i64 1) ∧ Below w.heap.size w w' := by
  go_enter Try.func13, Try.ntmps13
  go_wp2_with fail
  go_returns
  first | exact ⟨rfl, Below.refl _ _⟩ | exact ⟨rfl, (Below.refl _ _).alloc (Nat.le_refl _) _⟩
set_option maxRecDepth 100000 in
set_option maxHeartbeats 400000 in
theorem nlay (s : ByteArray) (w : World) : Calls Try.prog 19 #[.pointer none, .string s] w fun e w' => e = .returned (.int .i64 1) ∧ Below w.heap.size w w' := by
  go_enter Try.func19, Try.ntmps19
  go_wp2_with fail
  go_returns
  first | exact ⟨rfl, Below.refl _ _⟩ | exact ⟨rfl, (Below.refl _ _).alloc (Nat.le_refl _) _⟩
set_option maxRecDepth 100000 in
set_option maxHeartbeats 400000 in
theorem ntext (w : World) : Calls Try.prog 14 #[.pointer none] w fun e w' => e = .returned (.string ⟨#[]⟩) ∧ Below w.heap.size w w' := by
  go_enter Try.func14, Try.ntmps14
  go_wp2_with fail
  go_returns
  first | exact ⟨rfl, Below.refl _ _⟩ | exact ⟨rfl, (Below.refl _ _).alloc (Nat.le_refl _) _⟩
theorem take_space_in (w0 : World) (r : Nat) (s : List UInt8) (a : Nat) (k : Int) (w : World) (h : Hid (RI w0 w r s a)) (hs : s.length ≤ 100000) (h1 : 1 ≤ k) (h2 : k ≤ 64) (h3 : 8 * (s.length : Int) - a < k) :
    Calls Try.prog 17 #[.pointer (some ⟨r, 0, none⟩), .int .i64 k] w fun e w' => e = .returned (.tuple #[.int .u64 0, .int .i64 12]) ∧ Below w.heap.size w w' := by
  obtain ⟨g, a1, a2, a3, a4⟩ := h.out
  exact rdTake_space r g s a w a1 hs k h1 h2 h3
theorem bytes_none_in (w0 : World) (r : Nat) (s : List UInt8) (a : Nat) (w : World) (h : Hid (RI w0 w r s a)) (hs : s.length ≤ 1000) :
    Calls Try.prog 32 #[.pointer (some ⟨r, 0, none⟩), .int .i64 0] w fun e w' => e = .returned (.tuple #[.string ⟨#[]⟩, .int .i64 0]) ∧ Hid (RI w0 w' r s a) := by
  obtain ⟨g, a1, a2, a3, a4⟩ := h.out
  have hle := a1.le
  refine (rdBytes_is r g s a w a1 hs 0 (by omega) ⟨#[]⟩ rfl).mono ?_
  rintro e w' ⟨rfl, k1, k2⟩
  exact ⟨rfl, Lib.hid ⟨g, k2, Wrote.below a2 k1 (fun i hi => by omega), a3, a4⟩⟩

set_option maxRecDepth 100000 in
set_option maxHeartbeats 4000000 in
theorem bitsKnown_walk (w : World) : Calls Try.prog 12 #[] w fun e w' => e = .returned (.bool true) ∧ Below w.heap.size w w' := by
  have h5 : Hid (valL (((ubits [169]).drop 0).take 3) = 5) := Lib.hid (by decide +kernel)
  have h0 : Hid (valL (((ubits [169]).drop 3).take 1) = 0) := Lib.hid (by decide +kernel)
  have h9 : Hid (valL (((ubits [169]).drop 4).take 4) = 9) := Lib.hid (by decide +kernel)
  have K0 := Lib.hid (KW.start w)
  go_enter Try.func12, Try.ntmps12
  go_wp2_with fail
  refine (KW.put (l' := [true]) K0 1 1 0 (by decide) (by decide) (by decide +kernel) (by decide +kernel)).mono ?_
  rintro e v1 ⟨rfl, K1⟩
  clear K0
  go_wp2_with fail
  refine (KW.bytes (l' := [true, false, true, true, false, false, false, false, true]) K1 ⟨#[97]⟩ (by decide) (by decide) (by decide +kernel)).mono ?_
  rintro e v2 ⟨rfl, K2⟩
  clear K1
  go_wp2_with fail
  refine (KW.text K2 ⟨#[176, 128]⟩ (by decide +kernel)).mono ?_
  rintro e v3 ⟨rfl, K3⟩
  clear K2
  go_wp2_with fail
  refine (KW.put (l' := [true, false, true, true, false, false, false, false, true]) K3 8 3 14 (by decide) (by decide) (by decide +kernel) (by decide +kernel)).mono ?_
  rintro e v4 ⟨rfl, K4⟩
  clear K3
  go_wp2_with fail
  refine (KW.put (l' := [true, false, true, true, false, false, false, false, true]) K4 1 0 2 (by decide) (by decide) (by decide +kernel) (by decide +kernel)).mono ?_
  rintro e v5 ⟨rfl, K5⟩
  clear K4
  go_wp2_with fail
  refine (KW.put (l' := [true, false, true, true, false, false, false, false, true]) K5 1 65 2 (by decide) (by decide) (by decide +kernel) (by decide +kernel)).mono ?_
  rintro e v6 ⟨rfl, K6⟩
  clear K5
  go_wp2_with fail
  refine (KW.put (l' := [true, false, true, true, false, false, false, false, true]) K6 1 (-1) 2 (by decide) (by decide) (by decide +kernel) (by decide +kernel)).mono ?_
  rintro e v7 ⟨rfl, K7⟩
  clear K6
  go_wp2_with fail
  refine (KW.text K7 ⟨#[176, 128]⟩ (by decide +kernel)).mono ?_
  rintro e v8 ⟨rfl, K8⟩
  clear K7
  have K9 := Lib.hid (K8.out.next (by simp))
  clear K8
  go_wp2_with fail
  refine (KW.put (l' := [true, true, true, true, true, true, true, true, true, true, true, true, true, true, true, true, true, true, true, true, true, true, true, true, true, true, true, true, true, true, true, true, true, true, true, true, true, true, true, true, true, true, true, true, true, true, true, true, true, true, true, true, true, true, true, true, true, true, true, true, true, true, true, true]) K9 18446744073709551615 64 0 (by decide) (by decide) (by decide +kernel) (by decide +kernel)).mono ?_
  rintro e v10 ⟨rfl, K10⟩
  clear K9
  go_wp2_with fail
  refine (KW.put (l' := [true, true, true, true, true, true, true, true, true, true, true, true, true, true, true, true, true, true, true, true, true, true, true, true, true, true, true, true, true, true, true, true, true, true, true, true, true, true, true, true, true, true, true, true, true, true, true, true, true, true, true, true, true, true, true, true, true, true, true, true, true, true, true, true, true, true, true, true, true, true, true, true, true, true, true, true, true, true, true, true, true, true, true, true, true, true, true, true, true, true, true, true, true, true, true, true, true, true, true, true, true, true, true, true, true, true, true, true, true, true, true, true, true, true, true, true, true, true, true, true, true, true, true, true, true, true, true]) K10 9223372036854775807 63 0 (by decide) (by decide) (by decide +kernel) (by decide +kernel)).mono ?_
  rintro e v11 ⟨rfl, K11⟩
  clear K10
  go_wp2_with fail
  refine (KW.put (l' := [true, true, true, true, true, true, true, true, true, true, true, true, true, true, true, true, true, true, true, true, true, true, true, true, true, true, true, true, true, true, true, true, true, true, true, true, true, true, true, true, true, true, true, true, true, true, true, true, true, true, true, true, true, true, true, true, true, true, true, true, true, true, true, true, true, true, true, true, true, true, true, true, true, true, true, true, true, true, true, true, true, true, true, true, true, true, true, true, true, true, true, true, true, true, true, true, true, true, true, true, true, true, true, true, true, true, true, true, true, true, true, true, true, true, true, true, true, true, true, true, true, true, true, true, true, true, true]) K11 9223372036854775808 63 14 (by decide) (by decide) (by decide +kernel) (by decide +kernel)).mono ?_
  rintro e v12 ⟨rfl, K12⟩
  clear K11
  go_wp2_with fail
  refine (KW.text K12 ⟨#[255, 255, 255, 255, 255, 255, 255, 255, 255, 255, 255, 255, 255, 255, 255, 254]⟩ (by decide +kernel)).mono ?_
  rintro e v13 ⟨rfl, K13⟩
  clear K12
  have K14 := Lib.hid (K13.out.next (by simp))
  clear K13
  go_wp2_with fail
  refine (KW.text K14 ⟨#[]⟩ (by decide +kernel)).mono ?_
  rintro e v15 ⟨rfl, K15⟩
  clear K14
  go_wp2_with fail
  refine (new_in w ⟨#[169]⟩ (by decide) _ K15.out.bel).mono ?_
  rintro e w1 ⟨r, rfl, R1, q1⟩
  clear K15 q1
  go_wp2_with fail
  refine (take_in w _ _ 0 3 3 5 _ R1 (by decide) (by decide) (by decide) (by decide) rfl h5).mono ?_
  rintro e w2 ⟨rfl, R2⟩
  clear R1
  go_wp2_with fail
  refine (take_in w _ _ 3 1 4 0 _ R2 (by decide) (by decide) (by decide) (by decide) rfl h0).mono ?_
  rintro e w3 ⟨rfl, R3⟩
  clear R2
  go_wp2_with fail
  refine (left_in w _ _ _ 4 _ R3 (by decide) (by decide)).mono ?_
  rintro e w4 ⟨rfl, q4⟩
  have R4 := Lib.hid (R3.out.below q4)
  clear q4 R3
  go_wp2_with fail
  refine (take_space_in w _ _ 4 5 _ R4 (by decide) (by decide) (by decide) (by decide)).mono ?_
  rintro e w5 ⟨rfl, q5⟩
  have R5 := Lib.hid (R4.out.below q5)
  clear q5 R4
  go_wp2_with fail
  refine (take_in w _ _ 4 4 8 9 _ R5 (by decide) (by decide) (by decide) (by decide) rfl h9).mono ?_
  rintro e w6 ⟨rfl, R6⟩
  clear R5
  go_wp2_with fail
  refine (rdTake_arg r 0 w6 (by decide)).mono ?_
  rintro e w7 ⟨rfl, q7⟩
  have R7 := Lib.hid (R6.out.below q7)
  clear q7 R6
  go_wp2_with fail
  refine (rdTake_arg r 65 w7 (by decide)).mono ?_
  rintro e w8 ⟨rfl, q8⟩
  have R8 := Lib.hid (R7.out.below q8)
  clear q8 R7
  go_wp2_with fail
  refine (rdBytes_arg r (-1) w8 (by decide)).mono ?_
  rintro e w9 ⟨rfl, q9⟩
  have R9 := Lib.hid (R8.out.below q9)
  clear q9 R8
  go_wp2_with fail
  refine (bytes_none_in w _ _ _ _ R9 (by decide)).mono ?_
  rintro e w10 ⟨rfl, R10⟩
  clear R9
  go_wp2_with fail
  refine (ntake 1 w10).mono ?_
  rintro e w11 ⟨rfl, q11⟩
  have R11 := Lib.hid (R10.out.below q11)
  clear q11 R10
  go_wp2_with fail
  refine (nbytes 1 w11).mono ?_
  rintro e w12 ⟨rfl, q12⟩
  have R12 := Lib.hid (R11.out.below q12)
  clear q12 R11
  go_wp2_with fail
  refine (left_in w _ _ _ 0 _ R12 (by decide) (by decide)).mono ?_
  rintro e w13 ⟨rfl, q13⟩
  have R13 := Lib.hid (R12.out.below q13)
  clear q13 R12
  go_wp2_with fail
  refine (nleft w13).mono ?_
  rintro e w14 ⟨rfl, q14⟩
  have R14 := Lib.hid (R13.out.below q14)
  clear q14 R13
  go_wp2_with fail
  refine (nput 1 1 w14).mono ?_
  rintro e w15 ⟨rfl, q15⟩
  have R15 := Lib.hid (R14.out.below q15)
  clear q15 R14
  go_wp2_with fail
  refine (nlay ⟨#[97]⟩ w15).mono ?_
  rintro e w16 ⟨rfl, q16⟩
  have R16 := Lib.hid (R15.out.below q16)
  clear q16 R15
  go_wp2_with fail
  refine (ntext w16).mono ?_
  rintro e w17 ⟨rfl, q17⟩
  have R17 := Lib.hid (R16.out.below q17)
  clear q17 R16
  go_wp2_with fail
  refine (works01 w17).mono ?_
  rintro e w18 ⟨rfl, q18⟩
  have R18 := Lib.hid (R17.out.below q18)
  clear q18 R17
  go_wp2_with fail
  go_returns
  obtain ⟨g, _, h, _⟩ := R18.out
  exact ⟨rfl, h⟩
end Go.Proofs.Ytljdkaajlmcpkaa
