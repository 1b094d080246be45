/-
  A reader beside the document's own: what each answers, for any number that is asked.
-/
import Derived.Test.YtljdkaajlmcpkaaActs3
import Derived.Test.YtljdkaajlmcpkaaBitsCut
namespace Go.Proofs.Ytljdkaajlmcpkaa
open Go.RowKit

theorem RdR.wrote {p : Nat → Prop} {B : Nat} {w w' : World} {r : Nat} {l : List Bool} (h : RdR B w r l) (k : Wrote p w w') (hr : ¬ p r) (hB : ∀ j, B ≤ j → ¬ p j) : RdR B w' r l := by
  obtain ⟨a, c, hS, hb⟩ := h.ex
  refine ⟨a, c, hS.kept k hr, fun hl => ?_⟩
  obtain ⟨g, o, h1, h2, h3, h4, h5, h6, h7⟩ := hb hl
  exact ⟨g, o, h1, h2, h3, h4, Nat.lt_of_lt_of_le h5 k.size, fun j hj => (k.cell (h6 j hj) (hB g h7)), h7⟩
structure RR (w0 w : World) (r1 g B r2 : Nat) (s : List UInt8) (a a2 : Nat) : Prop where
  A : Rd w r1 g s a
  R : RdR B w r2 ((ubits s).drop a2)
  bel : Below w0.heap.size w0 w
  h1 : w0.heap.size ≤ r1
  hg : w0.heap.size ≤ g
  hB : r1 < B
  gB : g < B
  h2 : B ≤ r2
structure RX (w0 w : World) (r1 g B r2 : Nat) (s : List UInt8) (a a2 : Nat) (bx : Nat) (cs : List Value) (T : TypeId) : Prop where
  r : RR w0 w r1 g B r2 s a a2
  X : Blk w bx cs T
  n1 : bx ≠ r1
  n2 : bx ≠ r2
section
variable {w0 w w' : World} {r1 g B r2 : Nat} {s : List UInt8} {a a2 a' bx : Nat} {cs : List Value} {T : TypeId}
theorem RR.below (h : RR w0 w r1 g B r2 s a a2) (k : Below w.heap.size w w') : RR w0 w' r1 g B r2 s a a2 :=
  ⟨h.A.kept k, h.R.kept k, h.bel.trans (k.mono h.bel.size), h.h1, h.hg, h.hB, h.gB, h.h2⟩
theorem RR.block (h : RR w0 w r1 g B r2 s a a2) (cs : List Value) (T : TypeId) : RX w0 (w.alloc (.cells cs.toArray T)) r1 g B r2 s a a2 w.heap.size cs T := by
  obtain ⟨c, hA⟩ := h.A.S
  obtain ⟨x, c', hR, _⟩ := h.R.ex
  have := hA.lt
  have := hR.lt
  exact ⟨h.below ((Below.refl _ _).alloc (Nat.le_refl _) _), Blk.new _ _ _, by omega, by omega⟩
theorem RX.below (h : RX w0 w r1 g B r2 s a a2 bx cs T) (k : Below w.heap.size w w') : RX w0 w' r1 g B r2 s a a2 bx cs T :=
  ⟨h.r.below k, h.X.below k h.X.lt, h.n1, h.n2⟩
theorem RX.drew (h : RX w0 w r1 g B r2 s a a2 bx cs T) : RX w0 w.drew r1 g B r2 s a a2 bx cs T := h.below (Below.refl _ _).drew
theorem RX.stepA (h : RX w0 w r1 g B r2 s a a2 bx cs T) (k : Wrote (fun b => b = r1) w w') (h' : Rd w' r1 g s a') : RX w0 w' r1 g B r2 s a' a2 bx cs T := by
  have q1 := h.r.h1
  have q2 := h.r.hB
  have q3 := h.r.h2
  exact ⟨⟨h', h.r.R.wrote k (by omega) (fun j hj => by omega), Wrote.below h.r.bel k (fun i hi => by omega), q1, h.r.hg, q2, h.r.gB, q3⟩, h.X.kept k h.n1, h.n1, h.n2⟩
theorem RX.stepB (h : RX w0 w r1 g B r2 s a a2 bx cs T) (k : Wrote (fun b => b = r2) w w') (h' : RdR B w' r2 ((ubits s).drop a')) : RX w0 w' r1 g B r2 s a a' bx cs T := by
  have q1 := h.r.h1
  have q2 := h.r.hB
  have q3 := h.r.h2
  have q4 := h.r.gB
  exact ⟨⟨h.r.A.wrote k (by omega) (by omega), h', Wrote.below h.r.bel k (fun i hi => by omega), q1, h.r.hg, q2, q4, q3⟩, h.X.kept k h.n2, h.n1, h.n2⟩
theorem RX.left (h : Hid (RX w0 w r1 g B r2 s a a2 bx cs T)) (hs : s.length ≤ 1000) (l : Int) (hl : 8 * (s.length : Int) - a = l) : Calls Try.prog 16 #[.pointer (some ⟨r1, 0, none⟩)] w fun e w' => e = .returned (.int .i64 l) ∧ Below w.heap.size w w' :=
  rdLeft_is r1 g s a w h.out.r.A (by omega) l hl
theorem RX.cell (h : Hid (RX w0 w r1 g B r2 s a a2 bx cs T)) (m : Nat) (hm : 8 * s.length - a2 = m) : ∃ x c, w.cell? ⟨r2, 0, none⟩ = some (.slice x m c) := by
  obtain ⟨x, c, hR, _⟩ := h.out.r.R.ex
  have e : ((ubits s).drop a2).length = m := by rw [List.length_drop, ubits_length]; exact hm
  rw [e] at hR
  exact ⟨x, c, hR.cell 0 rfl⟩
end
/-- What both readers answer. -/
theorem both_take (s : List UInt8) (a : Nat) (k : Int) (hs : s.length ≤ 60) (ha : a ≤ 8 * s.length) : ∃ (x : Nat) (e : Int) (a' : Nat), a' ≤ 8 * s.length
    ∧ (∀ (w0 w : World) (r1 g B r2 bx a2 : Nat) (cs : List Value) (T : TypeId), Hid (RX w0 w r1 g B r2 s a a2 bx cs T) → Calls Try.prog 17 #[.pointer (some ⟨r1, 0, none⟩), .int .i64 k] w fun en w' => en = .returned (.tuple #[.int .u64 x, .int .i64 e]) ∧ Hid (RX w0 w' r1 g B r2 s a' a2 bx cs T))
    ∧ (∀ (w0 w : World) (r1 g B r2 bx a1 : Nat) (cs : List Value) (T : TypeId), Hid (RX w0 w r1 g B r2 s a1 a bx cs T) → Calls Try.prog 34 #[.pointer (some ⟨r2, 0, none⟩), .int .i64 k] w fun en w' => en = .returned (.tuple #[.int .u64 x, .int .i64 e]) ∧ Hid (RX w0 w' r1 g B r2 s a1 a' bx cs T)) := by
  have hul : ((ubits s).drop a).length = 8 * s.length - a := by rw [List.length_drop, ubits_length]
  by_cases h1 : k < 1 ∨ 64 < k
  · exact ⟨0, 2, a, ha, fun w0 w r1 g B r2 bx a2 cs T h => (rdTake_arg r1 k w h1).mono (fun e w' ⟨e1, e2⟩ => ⟨e1, Lib.hid (h.out.below e2)⟩),
      fun w0 w r1 g B r2 bx a1 cs T h => (rrTake_arg r2 k w h1).mono (fun e w' ⟨e1, e2⟩ => ⟨e1, Lib.hid (h.out.below e2)⟩)⟩
  · by_cases h2 : 8 * (s.length : Int) - a < k
    · exact ⟨0, 12, a, ha, fun w0 w r1 g B r2 bx a2 cs T h => (rdTake_space r1 g s a w h.out.r.A (by omega) k (by omega) (by omega) h2).mono (fun e w' ⟨e1, e2⟩ => ⟨e1, Lib.hid (h.out.below e2)⟩),
        fun w0 w r1 g B r2 bx a1 cs T h => (rrTake_space r2 _ w h.out.r.R k (by omega) (by omega) (by rw [hul]; omega)).mono (fun e w' ⟨e1, e2⟩ => ⟨e1, Lib.hid (h.out.below e2)⟩)⟩
    · obtain ⟨n, rfl⟩ : ∃ n : Nat, k = n := ⟨k.toNat, by omega⟩
      refine ⟨valL (((ubits s).drop a).take n), 0, a + n, by omega, fun w0 w r1 g B r2 bx a2 cs T h => (rdTake_is r1 g s a w h.out.r.A (by omega) n (by omega) (by omega) (by omega)).mono (fun e w' ⟨e1, e2, e3⟩ => ⟨e1, Lib.hid (h.out.stepA e2 e3)⟩),
        fun w0 w r1 g B r2 bx a1 cs T h => (rrTake_is r2 _ w h.out.r.R n (by omega) (by omega) (by rw [hul]; omega)).mono (fun e w' ⟨e1, e2, e3⟩ => ⟨e1, Lib.hid (h.out.stepB e2 (by rw [List.drop_drop] at e3; exact e3))⟩)⟩
theorem both_bytes (s : List UInt8) (a : Nat) (k : Int) (hs : s.length ≤ 60) (ha : a ≤ 8 * s.length) : ∃ (x : ByteArray) (e : Int) (a' : Nat), a' ≤ 8 * s.length
    ∧ (∀ (w0 w : World) (r1 g B r2 bx a2 : Nat) (cs : List Value) (T : TypeId), Hid (RX w0 w r1 g B r2 s a a2 bx cs T) → Calls Try.prog 32 #[.pointer (some ⟨r1, 0, none⟩), .int .i64 k] w fun en w' => en = .returned (.tuple #[.string x, .int .i64 e]) ∧ Hid (RX w0 w' r1 g B r2 s a' a2 bx cs T))
    ∧ (∀ (w0 w : World) (r1 g B r2 bx a1 : Nat) (cs : List Value) (T : TypeId), Hid (RX w0 w r1 g B r2 s a1 a bx cs T) → Calls Try.prog 33 #[.pointer (some ⟨r2, 0, none⟩), .int .i64 k] w fun en w' => en = .returned (.tuple #[.string x, .int .i64 e]) ∧ Hid (RX w0 w' r1 g B r2 s a1 a' bx cs T)) := by
  have hul : ((ubits s).drop a).length = 8 * s.length - a := by rw [List.length_drop, ubits_length]
  by_cases h1 : k < 0
  · exact ⟨⟨#[]⟩, 2, a, ha, fun w0 w r1 g B r2 bx a2 cs T h => (rdBytes_arg r1 k w h1).mono (fun e w' ⟨e1, e2⟩ => ⟨e1, Lib.hid (h.out.below e2)⟩),
      fun w0 w r1 g B r2 bx a1 cs T h => (rrBytes_arg r2 k w h1).mono (fun e w' ⟨e1, e2⟩ => ⟨e1, Lib.hid (h.out.below e2)⟩)⟩
  · by_cases h2 : (8 * (s.length : Int) - a) / 8 < k
    · exact ⟨⟨#[]⟩, 12, a, ha, fun w0 w r1 g B r2 bx a2 cs T h => (rdBytes_space r1 g s a w h.out.r.A (by omega) k (by omega) h2).mono (fun e w' ⟨e1, e2⟩ => ⟨e1, Lib.hid (h.out.below e2)⟩),
        fun w0 w r1 g B r2 bx a1 cs T h => (rrBytes_space r2 _ w h.out.r.R (by rw [hul]; omega) k (by omega) (by rw [hul]; omega)).mono (fun e w' ⟨e1, e2⟩ => ⟨e1, Lib.hid (h.out.below e2)⟩)⟩
    · obtain ⟨n, rfl⟩ : ∃ n : Nat, k = n := ⟨k.toNat, by omega⟩
      obtain ⟨T0, hT0⟩ := bytes_as (bytesAt ((ubits s).drop a) n)
      refine ⟨T0, 0, a + 8 * n, by omega, fun w0 w r1 g B r2 bx a2 cs T h => (rdBytes_is r1 g s a w h.out.r.A (by omega) n (by omega) T0 hT0).mono (fun e w' ⟨e1, e2, e3⟩ => ⟨e1, Lib.hid (h.out.stepA e2 e3)⟩),
        fun w0 w r1 g B r2 bx a1 cs T h => (rrBytes_is r2 _ w h.out.r.R (by rw [hul]; omega) n (by omega) (by rw [hul]; omega) T0 hT0).mono (fun e w' ⟨e1, e2, e3⟩ => ⟨e1, Lib.hid (h.out.stepB e2 (by rw [List.drop_drop] at e3; exact e3))⟩)⟩

end Go.Proofs.Ytljdkaajlmcpkaa
