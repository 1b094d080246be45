/-
  BitsCut: the walk. (Printed by mkcut.py.)
-/
import Derived.Test.YtljdkaajlmcpkaaBitsBack
namespace Go.Proofs.Ytljdkaajlmcpkaa
open Go.RowKit

/-- A writer and a reader of the call's own, side by side. -/
def Both (w0 w : World) (r1 : Nat) (l : List Bool) (r2 : Nat) (s : List UInt8) (a : Nat) : Prop :=
  ∃ v g, Wr w r1 v l ∧ Rd w r2 g s a ∧ Below w0.heap.size w0 w ∧ w0.heap.size ≤ r1 ∧ w0.heap.size ≤ r2 ∧ w0.heap.size ≤ g ∧ (∀ k, v.ownBlock = some k → w0.heap.size ≤ k ∧ k ≠ r2 ∧ k ≠ g) ∧ r1 ≠ r2 ∧ r1 ≠ g
section
variable {w0 w w' : World} {r1 r2 : Nat} {l l' : List Bool} {s : List UInt8} {a a' : Nat}
theorem Both.ri (h : Both w0 w r1 l r2 s a) : RI w0 w r2 s a := by
  obtain ⟨v, g, h1, h2, h3, h4, h5, h6, _⟩ := h
  exact ⟨g, h2, h3, h5, h6⟩
theorem Both.wi (h : Both w0 w r1 l r2 s a) : WI w0 w r1 l := by
  obtain ⟨v, g, h1, h2, h3, h4, h5, h6, h7, _⟩ := h
  exact ⟨v, h1, h3, h4, fun k e => (h7 k e).1⟩
theorem Both.below (h : Both w0 w r1 l r2 s a) (k : Below w.heap.size w w') : Both w0 w' r1 l r2 s a := by
  obtain ⟨v, g, h1, h2, h3, h4⟩ := h
  exact ⟨v, g, h1.below k, h2.kept k, h3.trans (k.mono h3.size), h4⟩
theorem Both.new (h : RI w0 w r2 s a) : Both w0 (w.alloc (.cells #[.slice none 0 0, .int .i64 0] TWr)) w.heap.size [] r2 s a := by
  obtain ⟨g, h1, h2, h3, h4⟩ := h
  have hr : r2 < w.heap.size := by obtain ⟨c, hS⟩ := h1.S; exact hS.lt
  have hg := h1.lt
  exact ⟨.slice none 0 0, g, ⟨Blk.new w [.slice none 0 0, .int .i64 0] TWr, Row.nil _ _ _, by simp [Value.ownBlock]⟩, h1.kept ((Below.refl _ _).alloc (Nat.le_refl _) _), h2.alloc h2.size _, h2.size, h3, h4, fun k e => by simp [Value.ownBlock] at e, by omega, by omega⟩
theorem Both.take (h : Both w0 w r1 l r2 s a) (hs : s.length ≤ 100000) (k x : Nat) (h1 : 1 ≤ k) (h2 : k ≤ 64) (h3 : a + k ≤ 8 * s.length) (hx : Hid (valL (((ubits s).drop a).take k) = x)) :
    Calls Try.prog 17 #[.pointer (some ⟨r2, 0, none⟩), .int .i64 k] w fun e w' => e = .returned (.tuple #[.int .u64 x, .int .i64 0]) ∧ Hid (Both w0 w' r1 l r2 s (a + k)) := by
  obtain ⟨v, g, b1, b2, b3, b4, b5, b6, b7, b8, b9⟩ := h
  obtain rfl := hx.out
  refine (rdTake_is r2 g s a w b2 hs k h1 h2 h3).mono ?_
  rintro e w' ⟨rfl, k1, k2⟩
  exact ⟨rfl, Lib.hid ⟨v, g, b1.wrote k1 b8 (fun j e => (b7 j e).2.1), k2, Wrote.below b3 k1 (fun i hi => by omega), b4, b5, b6, b7, b8, b9⟩⟩
theorem Both.put (h : Both w0 w r1 l r2 s a) (n b : Nat) (h1 : 1 ≤ b) (h2 : b ≤ 64) (hn : n < 2 ^ b) (hlen : l.length ≤ 100000) (hl : l ++ bitsL n b = l') :
    Calls Try.prog 13 #[.pointer (some ⟨r1, 0, none⟩), .int .u64 n, .int .i64 b] w fun e w' => e = .returned (.int .i64 0) ∧ Hid (Both w0 w' r1 l' r2 s a) := by
  obtain ⟨v, g, b1, b2, b3, b4, b5, b6, b7, b8, b9⟩ := h
  subst hl
  refine (put_ok r1 v l n b h1 h2 hn w b1 hlen).mono ?_
  rintro e w' ⟨rfl, v', k1, k2, k3⟩
  have hr2 : r2 < w.heap.size := by obtain ⟨c, hS⟩ := b2.S; exact hS.lt
  have hg := b2.lt
  refine ⟨rfl, Lib.hid ⟨v', g, k1, b2.wrote k2 (fun hp => ?_) (fun hp => ?_), Wrote.below b3 k2 (fun i hi => ?_), b4, b5, b6, fun j e => ?_, b8, b9⟩⟩
  · rcases hp with hp | hp
    · exact b8 hp.symm
    · exact (b7 _ hp).2.1 rfl
  · rcases hp with hp | hp
    · exact b9 hp.symm
    · exact (b7 _ hp).2.2 rfl
  · rcases hi with hi | hi
    · omega
    · exact (b7 i hi).1
  · rcases k3 j e with h | h
    · exact b7 j h
    · have := b3.size
      exact ⟨by omega, by omega, by omega⟩
theorem Both.renew (h : Both w0 w r1 l r2 s a) (t : ByteArray) (ht : t.size ≤ 100000) :
    Calls Try.prog 15 #[.string t] w fun e w' => ∃ r, e = .returned (.pointer (some ⟨r, 0, none⟩)) ∧ Hid (Both w0 w' r1 l r t.data.toList 0) := by
  obtain ⟨v, g, b1, b2, b3, b4, b5, b6, b7, b8, b9⟩ := h
  refine (rdNew_is t ht w).mono ?_
  rintro e w' ⟨r, g', rfl, h1, h2, h3, h4⟩
  have hv := fun j e => b1.b.own_lt (k := j) e
  have hr := b1.S.lt
  have hb := b3.size
  exact ⟨r, rfl, Lib.hid ⟨v, g', b1.below h4, h1, b3.trans (h4.mono b3.size), b4, by omega, by omega, fun k e => ⟨(b7 k e).1, by have := hv k e; omega, by have := hv k e; omega⟩, by omega, by omega⟩⟩
theorem Both.bytes {t : ByteArray} (h : Both w0 w r1 l r2 t.data.toList 0) (ht : t.size ≤ 1000) (q : Nat) (hq : t.size = q) :
    Calls Try.prog 32 #[.pointer (some ⟨r2, 0, none⟩), .int .i64 q] w fun e w' => e = .returned (.tuple #[.string t, .int .i64 0]) ∧ Hid (Both w0 w' r1 l r2 t.data.toList (8 * q)) := by
  obtain ⟨v, g, b1, b2, b3, b4, b5, b6, b7, b8, b9⟩ := h
  subst hq
  refine (rdBytes_is r2 g t.data.toList 0 w b2 (by rw [len_bytes]; omega) t.size (by rw [len_bytes]; omega) t (by rw [List.drop_zero]; have := bytesAt_ubits t.data.toList; rw [len_bytes] at this; exact this.symm)).mono ?_
  rintro e w' ⟨rfl, k1, k2⟩
  rw [Nat.zero_add] at k2
  exact ⟨rfl, Lib.hid ⟨v, g, b1.wrote k1 b8 (fun j e => (b7 j e).2.1), k2, Wrote.below b3 k1 (fun i hi => by omega), b4, b5, b6, b7, b8, b9⟩⟩
end
theorem space_in (w0 : World) (r : Nat) (s : List UInt8) (a : Nat) (k : Int) (w : World) (h : Hid (RI w0 w r s a)) (hs : s.length ≤ 100000) (h1 : 0 ≤ k) (h2 : (8 * (s.length : Int) - a) / 8 < k) :
    Calls Try.prog 32 #[.pointer (some ⟨r, 0, none⟩), .int .i64 k] w fun e w' => e = .returned (.tuple #[.string ⟨#[]⟩, .int .i64 12]) ∧ Below w.heap.size w w' := by
  obtain ⟨g, a1, a2, a3, a4⟩ := h.out
  exact rdBytes_space r g s a w a1 hs k h1 h2
theorem cut_str (f : ByteArray) (n : Nat) : ∃ f1 : ByteArray, (((f.size : Int) ≤ n ∧ f1 = f) ∨ ((n : Int) < (f.size : Int) ∧ f.extract 0 n = f1)) ∧ f1.size ≤ n := by
  by_cases h : (f.size : Int) ≤ n
  · exact ⟨f, .inl ⟨h, rfl⟩, by omega⟩
  · exact ⟨_, .inr ⟨by omega, rfl⟩, by rw [ByteArray.size_extract]; omega⟩

set_option maxRecDepth 100000 in
set_option maxHeartbeats 4000000 in
theorem bitsCut_core (f s : ByteArray) (hc : ((f.size : Int) ≤ 60 ∧ s = f) ∨ ((60 : Int) < (f.size : Int) ∧ f.extract 0 60 = s)) (hs : s.size ≤ 60) (a2 : Option Addr) (len2 cap2 : Nat) (z2 : List Int) (w : World) (hr2 : IsRow .u8 w a2 len2 cap2 z2) :
    Calls Try.prog 11 #[.string f, .slice a2 len2 cap2] w fun e w' => e = .returned (.bool true) ∧ Below w.heap.size w w' := by
  have HR2 := Lib.hid hr2
  clear hr2
  obtain ⟨q, hq⟩ : ∃ q, s.size = q := ⟨_, rfl⟩
  have hex : s.extract 0 q = s := by
    apply ByteArray.ext
    rw [← hq]
    simp
  have hul : (ubits s.data.toList).length = 8 * q := by rw [ubits_length, len_bytes, hq]
  go_enter Try.func11, Try.ntmps11
  rcases hc with ⟨hc, rfl⟩ | ⟨hc, hc2⟩
  all_goals
    go_wp2_with fail
    refine (new_in w s (by omega) _ (Below.refl _ _)).mono ?_
    rintro e w1 ⟨r, rfl, R1, -⟩
    have B1 : Hid (Both w (w1.alloc (.cells #[.slice none 0 0, .int .i64 0] TWr)) w1.heap.size ((ubits s.data.toList).take 0) r s.data.toList 0) := Lib.hid (Both.new R1.out)
    clear R1
    obtain ⟨rw, hrw⟩ : ∃ rw, w1.heap.size = rw := ⟨_, rfl⟩
    obtain ⟨w2, hw2⟩ : ∃ w2, w1.alloc (.cells #[.slice none 0 0, .int .i64 0] TWr) = w2 := ⟨_, rfl⟩
    rw [hrw, hw2] at B1
    go_wp2_with fail
    clear hw2 hrw
    go_loopw [7] (fun iv wr => ∃ i a : Nat, i ≤ a ∧ a ≤ 8 * q ∧ iv = .int .i64 i ∧ Hid (Both w wr rw ((ubits s.data.toList).take a) r s.data.toList a)) (fun _ wr => 8 * q - rdAt wr r)
    case atStart => exact ⟨0, 0, by omega, by omega, rfl, B1⟩
    case round =>
      obtain ⟨i, a, hia, ha, rfl, HB⟩ := hrel
      clear B1
      have hat := HB.out.ri.at
      obtain ⟨m, hm⟩ : ∃ m, 8 * q - a = m := ⟨_, rfl⟩
      have LF : Hid (∀ wz, Hid (Both w wz rw ((ubits s.data.toList).take a) r s.data.toList a) → Calls Try.prog 16 #[.pointer (some ⟨r, 0, none⟩)] wz fun e w' => e = .returned (.int .i64 m) ∧ Below wz.heap.size wz w') := Lib.hid (fun wz h => left_in w r s.data.toList a (m : Int) wz (Lib.hid h.out.ri) (by rw [len_bytes]; omega) (by rw [len_bytes, hq]; omega))
      by_cases hlt : a < 8 * q
      · have hm0 : (0 : Int) < m := by omega
        have hi5 : (i : Int) < 500 := by omega
        by_cases h2 : i < len2
        · have h2' : (i : Int) < len2 := by omega
          obtain ⟨b2, o2, rfl, hb2, hc2⟩ := HR2.out.at h2
          have hd := fun wz (h : Below w.heap.size w wz) => (h.cell (p := ⟨b2, o2 + i, none⟩) hb2).trans (hc2 i h2)
          have hdr : 0 ≤ z2.getD i 0 ∧ z2.getD i 0 ≤ 255 := by
            have hm : z2.getD i 0 ∈ z2 := by
              rw [List.getD_eq_getElem?_getD, List.getElem?_eq_getElem (by have := HR2.out.len_le.1; omega)]
              exact List.getElem_mem _
            exact bounds_u8 (HR2.out.wf _ hm)
          obtain ⟨d, hd0⟩ : ∃ d : Nat, z2.getD i 0 = d := ⟨(z2.getD i 0).toNat, by omega⟩
          rw [hd0] at hd hdr
          obtain ⟨b, hb⟩ : ∃ b : Nat, 1 + d % 64 = b := ⟨_, rfl⟩
          have hb0 : 1 + (d : Int) % 64 = b := by omega
          have hb1 : 1 ≤ b := by omega
          have hb64 : b ≤ 64 := by omega
          have HD := Lib.hid hd
          clear hc2 hd0 hb hd
          go_wp2_with fail
          refine (LF.out _ HB).mono ?_
          rintro e w3 ⟨rfl, q3⟩
          have B3 := Lib.hid (HB.out.below q3)
          have hdd := HD.out w3 (by obtain ⟨_, _, _, _, h, _⟩ := B3.out; exact h)
          clear q3 HB HD
          go_wp2_with fail
          refine (LF.out _ B3).mono ?_
          rintro e w4 ⟨rfl, q4⟩
          have B4 := Lib.hid (B3.out.below q4)
          clear q4 B3
          by_cases hbm : b ≤ m
          · have hbm' : (b : Int) ≤ m := by omega
            have hx := valL_lt (((ubits s.data.toList).drop a).take b)
            have hkl : (((ubits s.data.toList).drop a).take b).length = b := by rw [List.length_take, List.length_drop, hul]; omega
            have hbv := bitsL_valL (((ubits s.data.toList).drop a).take b)
            rw [hkl] at hx hbv
            obtain ⟨x, hxv⟩ : ∃ x, valL (((ubits s.data.toList).drop a).take b) = x := ⟨_, rfl⟩
            have HX := Lib.hid hxv
            rw [hxv] at hx hbv
            have hnext : (ubits s.data.toList).take a ++ bitsL x b = (ubits s.data.toList).take (a + b) := by rw [hbv, List.take_add]
            have HN := Lib.hid hnext
            have HXL := Lib.hid hx
            clear hbv hxv hnext hx
            go_wp2_with fail
            refine (B4.out.take (by rw [len_bytes]; omega) b x (by omega) (by omega) (by rw [len_bytes, hq]; omega) HX).mono ?_
            rintro e w5 ⟨rfl, B5⟩
            clear B4
            go_wp2_with fail
            refine (B5.out.put x b (by omega) (by omega) HXL.out (by rw [List.length_take]; omega) HN.out).mono ?_
            rintro e w6 ⟨rfl, B6⟩
            have hat6 := B6.out.ri.at
            clear B5
            go_wp2_with fail
            exact ⟨⟨i + 1, a + b, by omega, by omega, by go_num, B6⟩, by rw [hat, hat6]; omega⟩
          · have hbm' : ¬ (b : Int) ≤ m := by omega
            have hmb' : (m : Int) < b := by omega
            have hx := valL_lt (((ubits s.data.toList).drop a).take m)
            have hkl : (((ubits s.data.toList).drop a).take m).length = m := by rw [List.length_take, List.length_drop, hul]; omega
            have hbv := bitsL_valL (((ubits s.data.toList).drop a).take m)
            rw [hkl] at hx hbv
            obtain ⟨x, hxv⟩ : ∃ x, valL (((ubits s.data.toList).drop a).take m) = x := ⟨_, rfl⟩
            have HX := Lib.hid hxv
            rw [hxv] at hx hbv
            have hnext : (ubits s.data.toList).take a ++ bitsL x m = (ubits s.data.toList).take (a + m) := by rw [hbv, List.take_add]
            have HN := Lib.hid hnext
            have HXL := Lib.hid hx
            clear hbv hxv hnext hx
            go_wp2_with fail
            refine (B4.out.take (by rw [len_bytes]; omega) m x (by omega) (by omega) (by rw [len_bytes, hq]; omega) HX).mono ?_
            rintro e w5 ⟨rfl, B5⟩
            clear B4
            go_wp2_with fail
            refine (B5.out.put x m (by omega) (by omega) HXL.out (by rw [List.length_take]; omega) HN.out).mono ?_
            rintro e w6 ⟨rfl, B6⟩
            have hat6 := B6.out.ri.at
            clear B5
            go_wp2_with fail
            exact ⟨⟨i + 1, a + m, by omega, by omega, by go_num, B6⟩, by rw [hat, hat6]; omega⟩
        · have h2' : ¬ (i : Int) < len2 := by omega
          go_wp2_with fail
          refine (LF.out _ HB).mono ?_
          rintro e w3 ⟨rfl, q3⟩
          have B3 := Lib.hid (HB.out.below q3)
          clear q3 HB
          go_wp2_with fail
          refine (LF.out _ B3).mono ?_
          rintro e w4 ⟨rfl, q4⟩
          have B4 := Lib.hid (B3.out.below q4)
          clear q4 B3
          have hbm' : (1 : Int) ≤ m := by omega
          have hx := valL_lt (((ubits s.data.toList).drop a).take 1)
          have hkl : (((ubits s.data.toList).drop a).take 1).length = 1 := by rw [List.length_take, List.length_drop, hul]; omega
          have hbv := bitsL_valL (((ubits s.data.toList).drop a).take 1)
          rw [hkl] at hx hbv
          obtain ⟨x, hxv⟩ : ∃ x, valL (((ubits s.data.toList).drop a).take 1) = x := ⟨_, rfl⟩
          have HX := Lib.hid hxv
          rw [hxv] at hx hbv
          have hnext : (ubits s.data.toList).take a ++ bitsL x 1 = (ubits s.data.toList).take (a + 1) := by rw [hbv, List.take_add]
          have HN := Lib.hid hnext
          have HXL := Lib.hid hx
          clear hbv hxv hnext hx
          go_wp2_with fail
          refine (B4.out.take (by rw [len_bytes]; omega) 1 x (by omega) (by omega) (by rw [len_bytes, hq]; omega) HX).mono ?_
          rintro e w5 ⟨rfl, B5⟩
          clear B4
          go_wp2_with fail
          refine (B5.out.put x 1 (by omega) (by omega) HXL.out (by rw [List.length_take]; omega) HN.out).mono ?_
          rintro e w6 ⟨rfl, B6⟩
          have hat6 := B6.out.ri.at
          clear B5
          go_wp2_with fail
          exact ⟨⟨i + 1, a + 1, by omega, by omega, by go_num, B6⟩, by rw [hat, hat6]; omega⟩
      · obtain rfl : a = 8 * q := by omega
        have hm0 : m = 0 := by omega
        subst hm0
        have HU : Hid (s.data.toList = packL ((ubits s.data.toList).take (8 * q))) := Lib.hid (by rw [List.take_of_length_le (by omega), packL_ubits])
        go_wp2_with fail
        refine (LF.out _ HB).mono ?_
        rintro e w3 ⟨rfl, q3⟩
        have B3 := Lib.hid (HB.out.below q3)
        clear q3 HB LF
        go_wp2_with fail
        refine (B3.out.renew s (by omega)).mono ?_
        rintro e w4 ⟨r4, rfl, B4⟩
        clear B3
        go_wp2_with fail
        refine (B4.out.bytes (by omega) q hq).mono ?_
        rintro e w5 ⟨rfl, B5⟩
        clear B4
        go_wp2_with fail
        refine (space_in w r4 _ _ 1 _ (Lib.hid B5.out.ri) (by rw [len_bytes]; omega) (by omega) (by rw [len_bytes, hq]; omega)).mono ?_
        rintro e w6 ⟨rfl, q6⟩
        have B6 := Lib.hid (B5.out.below q6)
        clear q6 B5
        go_wp2_with fail
        refine (text_in w rw _ s HU _ (Lib.hid B6.out.wi)).mono ?_
        rintro e w7 ⟨rfl, q7⟩
        have B7 := Lib.hid (B6.out.below q7)
        clear q7 B6
        go_wp2_with fail
        refine (works01 _).mono ?_
        rintro e w8 ⟨rfl, q8⟩
        go_wp2_with fail
        go_returns
        obtain ⟨_, _, _, _, h, _⟩ := B7.out
        exact ⟨rfl, bthen h q8⟩
theorem bitsCut_walk (f : ByteArray) (a2 : Option Addr) (len2 cap2 : Nat) (z2 : List Int) (w : World) (hr2 : IsRow .u8 w a2 len2 cap2 z2) :
    Calls Try.prog 11 #[.string f, .slice a2 len2 cap2] w fun e w' => e = .returned (.bool true) ∧ Below w.heap.size w w' := by
  obtain ⟨s, hc, hs⟩ := cut_str f 60
  exact bitsCut_core f s hc hs a2 len2 cap2 z2 w hr2

end Go.Proofs.Ytljdkaajlmcpkaa
