/-
  Writers and readers beside others; aeriallaw01.works.
-/
import Derived.Test.YtljdkaajlmcpkaaBits10
namespace Go.Proofs.Ytljdkaajlmcpkaa
open Go.RowKit

theorem Wr.wrote {p : Nat → Prop} {w w' : World} {r : Nat} {v : Value} {l : List Bool} (h : Wr w r v l) (k : Wrote p w w') (hr : ¬ p r) (hv : ∀ j, v.ownBlock = some j → ¬ p j) : Wr w' r v l := ⟨h.S.kept k hr, h.b.wrote k hv, h.ne⟩
theorem Rw.wrote {p : Nat → Prop} {w w' : World} {r : Nat} {v : Value} {l : List Bool} (h : Rw w r v l) (k : Wrote p w w') (hr : ¬ p r) (hv : ∀ j, v.ownBlock = some j → ¬ p j) : Rw w' r v l := ⟨h.S.kept k hr, h.b.wrote k hv, h.ne⟩
theorem IsBytes.wrote {p : Nat → Prop} {w w' : World} {b : Nat} {l : List UInt8} (h : IsBytes w b l) (hlt : b < w.heap.size) (k : Wrote p w w') (hb : ¬ p b) : IsBytes w' b l := fun j hj => by
  have e := k.block b hlt hb
  have hc := h j hj
  unfold World.cell? World.frozen? at *
  rw [e]
  exact hc
theorem Rd.wrote {p : Nat → Prop} {w w' : World} {r g : Nat} {s : List UInt8} {a : Nat} (h : Rd w r g s a) (k : Wrote p w w') (hr : ¬ p r) (hg : ¬ p g) : Rd w' r g s a := by
  obtain ⟨c, hS⟩ := h.S
  exact ⟨⟨c, hS.kept k hr⟩, h.b.wrote h.lt k hg, h.le, h.ne, Nat.lt_of_lt_of_le h.lt k.size⟩
/-- A writer of the call's own. -/
def WI (w0 w : World) (r : Nat) (l : List Bool) : Prop := ∃ v, Wr w r v l ∧ Below w0.heap.size w0 w ∧ w0.heap.size ≤ r ∧ ∀ k, v.ownBlock = some k → w0.heap.size ≤ k
theorem WI.new (w0 w : World) (h : Below w0.heap.size w0 w) : WI w0 (w.alloc (.cells #[.slice none 0 0, .int .i64 0] TWr)) w.heap.size [] :=
  ⟨.slice none 0 0, ⟨Blk.new w [.slice none 0 0, .int .i64 0] TWr, Row.nil _ _ _, by simp [Value.ownBlock]⟩, h.alloc h.size _, h.size, fun k e => by simp [Value.ownBlock] at e⟩
theorem WI.to {w0 w w' : World} {r : Nat} {v : Value} {l' : List Bool} (hb : Below w0.heap.size w0 w) (hr : w0.heap.size ≤ r) (hv : ∀ k, v.ownBlock = some k → w0.heap.size ≤ k) (k : WrTo w r v l' w') : WI w0 w' r l' := by
  obtain ⟨v', k1, k2, k3⟩ := k
  refine ⟨v', k1, Wrote.below hb k2 (fun i hi => ?_), hr, fun k e => ?_⟩
  · rcases hi with hi | hi
    · omega
    · exact hv i hi
  · rcases k3 k e with h | h
    · exact hv k h
    · exact Nat.le_trans hb.size h
theorem WI.below {w0 w w' : World} {r : Nat} {l : List Bool} (h : WI w0 w r l) (k : Below w.heap.size w w') : WI w0 w' r l := by
  obtain ⟨v, h1, h2, h3, h4⟩ := h
  exact ⟨v, h1.below k, h2.trans (k.mono h2.size), h3, h4⟩
theorem put_in (w0 : World) (r : Nat) (l : List Bool) (n b : Nat) (w : World) (h : Hid (WI w0 w r l)) (h1 : 1 ≤ b) (h2 : b ≤ 64) (hn : n < 2 ^ b) (hlen : l.length ≤ 100000) :
    Calls Try.prog 13 #[.pointer (some ⟨r, 0, none⟩), .int .u64 n, .int .i64 b] w fun e w' => e = .returned (.int .i64 0) ∧ Hid (WI w0 w' r (l ++ bitsL n b)) := by
  obtain ⟨v, a1, a2, a3, a4⟩ := h.out
  exact (put_ok r v l n b h1 h2 hn w a1 hlen).mono (fun e w' ⟨he, hw⟩ => ⟨he, Lib.hid (WI.to a2 a3 a4 hw)⟩)
theorem text_in (w0 : World) (r : Nat) (l : List Bool) (T : ByteArray) (hT : Hid (T.data.toList = packL l)) (w : World) (h : Hid (WI w0 w r l)) :
    Calls Try.prog 14 #[.pointer (some ⟨r, 0, none⟩)] w fun e w' => e = .returned (.string T) ∧ Below w.heap.size w w' := by
  obtain ⟨v, a1, a2, a3, a4⟩ := h.out
  exact wrText_is r v l T hT.out w a1
/-- A reader of the call's own. -/
def RI (w0 w : World) (r : Nat) (s : List UInt8) (a : Nat) : Prop := ∃ g, Rd w r g s a ∧ Below w0.heap.size w0 w ∧ w0.heap.size ≤ r ∧ w0.heap.size ≤ g
theorem RI.below {w0 w w' : World} {r : Nat} {s : List UInt8} {a : Nat} (h : RI w0 w r s a) (k : Below w.heap.size w w') : RI w0 w' r s a := by
  obtain ⟨g, h1, h2, h3, h4⟩ := h
  exact ⟨g, h1.kept k, h2.trans (k.mono h2.size), h3, h4⟩
theorem new_in (w0 : World) (s : ByteArray) (hs : s.size ≤ 100000) (w : World) (hb : Below w0.heap.size w0 w) :
    Calls Try.prog 15 #[.string s] w fun e w' => ∃ r, e = .returned (.pointer (some ⟨r, 0, none⟩)) ∧ Hid (RI w0 w' r s.data.toList 0) ∧ Below w.heap.size w w' := by
  refine (rdNew_is s hs w).mono ?_
  rintro e w' ⟨r, g, rfl, h1, h2, h3, h4⟩
  have := hb.size
  exact ⟨r, rfl, Lib.hid ⟨g, h1, hb.trans (h4.mono hb.size), by omega, by omega⟩, h4⟩
theorem left_in (w0 : World) (r : Nat) (s : List UInt8) (a : Nat) (l : Int) (w : World) (h : Hid (RI w0 w r s a)) (hs : s.length ≤ 100000) (hl : 8 * (s.length : Int) - a = l) :
    Calls Try.prog 16 #[.pointer (some ⟨r, 0, none⟩)] w fun e w' => e = .returned (.int .i64 l) ∧ Below w.heap.size w w' := by
  obtain ⟨g, a1, a2, a3, a4⟩ := h.out
  exact rdLeft_is r g s a w a1 hs l hl
theorem take_in (w0 : World) (r : Nat) (s : List UInt8) (a k a' : Nat) (x : Nat) (w : World) (h : Hid (RI w0 w r s a)) (hs : s.length ≤ 100000) (h1 : 1 ≤ k) (h2 : k ≤ 64) (h3 : a + k ≤ 8 * s.length) (ha : a + k = a') (hx : Hid (valL (((ubits s).drop a).take k) = x)) :
    Calls Try.prog 17 #[.pointer (some ⟨r, 0, none⟩), .int .i64 k] w fun e w' => e = .returned (.tuple #[.int .u64 x, .int .i64 0]) ∧ Hid (RI w0 w' r s a') := by
  obtain ⟨g, a1, a2, a3, a4⟩ := h.out
  obtain rfl := hx.out
  subst ha
  refine (rdTake_is r g s a w a1 hs k h1 h2 h3).mono ?_
  rintro e w' ⟨rfl, k1, k2⟩
  exact ⟨rfl, Lib.hid ⟨g, k2, Wrote.below a2 k1 (fun i hi => by omega), a3, a4⟩⟩

set_option maxRecDepth 100000 in
set_option maxHeartbeats 400000 in
theorem works01 (w : World) : Calls Try.prog 18 #[] w fun e w' => e = .returned (.bool true) ∧ Below w.heap.size w w' := by
  have HT : Hid ((⟨#[169]⟩ : ByteArray).data.toList = packL ([] ++ bitsL 5 3 ++ bitsL 0 1 ++ bitsL 9 4)) := Lib.hid (by decide +kernel)
  have h5 : Hid (valL (((ubits [169]).drop 0).take 3) = 5) := Lib.hid (by decide +kernel)
  have h0 : Hid (valL (((ubits [169]).drop 3).take 1) = 0) := Lib.hid (by decide +kernel)
  have h9 : Hid (valL (((ubits [169]).drop 4).take 4) = 9) := Lib.hid (by decide +kernel)
  have I0 := Lib.hid (WI.new w w (Below.refl _ _))
  go_enter Try.func18, Try.ntmps18
  go_wp2_with fail
  refine (put_in w _ _ 5 3 _ I0 (by decide) (by decide) (by decide) (by decide)).mono ?_
  rintro e w1 ⟨rfl, I1⟩
  clear I0
  go_wp2_with fail
  refine (put_in w _ _ 0 1 _ I1 (by decide) (by decide) (by decide) (by decide)).mono ?_
  rintro e w2 ⟨rfl, I2⟩
  clear I1
  go_wp2_with fail
  refine (put_in w _ _ 9 4 _ I2 (by decide) (by decide) (by decide) (by decide)).mono ?_
  rintro e w3 ⟨rfl, I3⟩
  clear I2
  go_wp2_with fail
  refine (text_in w _ _ ⟨#[169]⟩ HT _ I3).mono ?_
  rintro e w4 ⟨rfl, q4⟩
  have I4 := Lib.hid (I3.out.below q4)
  clear q4 I3
  go_wp2_with fail
  refine (new_in w _ (by decide) _ (by obtain ⟨v, _, h, _⟩ := I4.out; exact h)).mono ?_
  rintro e w5 ⟨r, rfl, R5, q5⟩
  have I5 := Lib.hid (I4.out.below q5)
  clear q5 I4
  go_wp2_with fail
  refine (text_in w _ _ ⟨#[169]⟩ HT _ I5).mono ?_
  rintro e w6 ⟨rfl, q6⟩
  have R6 := Lib.hid (R5.out.below q6)
  clear q6 I5 R5
  go_wp2_with fail
  refine (left_in w _ _ _ 8 _ R6 (by decide) (by decide)).mono ?_
  rintro e w7 ⟨rfl, q7⟩
  have R7 := Lib.hid (R6.out.below q7)
  clear q7 R6
  go_wp2_with fail
  refine (take_in w _ _ 0 3 3 5 _ R7 (by decide) (by decide) (by decide) (by decide) rfl h5).mono ?_
  rintro e w8 ⟨rfl, R8⟩
  clear R7
  go_wp2_with fail
  refine (take_in w _ _ 3 1 4 0 _ R8 (by decide) (by decide) (by decide) (by decide) rfl h0).mono ?_
  rintro e w9 ⟨rfl, R9⟩
  clear R8
  go_wp2_with fail
  refine (take_in w _ _ 4 4 8 9 _ R9 (by decide) (by decide) (by decide) (by decide) rfl h9).mono ?_
  rintro e w10 ⟨rfl, R10⟩
  clear R9
  go_wp2_with fail
  refine (left_in w _ _ _ 0 _ R10 (by decide) (by decide)).mono ?_
  rintro e w11 ⟨rfl, q11⟩
  have R11 := Lib.hid (R10.out.below q11)
  clear q11 R10
  go_wp2_with fail
  go_returns
  obtain ⟨g, _, h, _⟩ := R11.out
  exact ⟨rfl, h⟩

end Go.Proofs.Ytljdkaajlmcpkaa
