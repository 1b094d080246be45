/-
  bits.Reader: by contract.
-/
import Derived.Test.YtljdkaajlmcpkaaBitsQ
import Derived.Test.YtljdkaajlmcpkaaRow
import Derived.Test.YtljdkaajlmcpkaaHeld
namespace Go.Proofs.Ytljdkaajlmcpkaa
open Go.RowKit

abbrev TRd : Nat := 78
/-- A reader behind a pointer: the bytes it reads, and at which bit it stands. -/
structure Rd (w : World) (r g : Nat) (s : List UInt8) (a : Nat) : Prop where
  S : ∃ c : Nat, Blk w r [.slice (some ⟨g, 0, none⟩) s.length c, .int .i64 ((8 * s.length : Nat) : Int), .int .i64 (a : Int)] TRd
  b : IsBytes w g s
  le : a ≤ 8 * s.length
  ne : r ≠ g
  lt : g < w.heap.size

set_option maxRecDepth 100000 in
set_option maxHeartbeats 400000 in
theorem rdNew_is (s : ByteArray) (hs : s.size ≤ 100000) (w : World) : Calls Try.prog 15 #[.string s] w fun e w' => ∃ r g, e = .returned (.pointer (some ⟨r, 0, none⟩)) ∧ Rd w' r g s.data.toList 0 ∧ w.heap.size ≤ r ∧ w.heap.size ≤ g ∧ Below w.heap.size w w' := by
  have hb := fun w => bytes_run w s
  go_enter Try.func15, Try.ntmps15
  go_wp2_with fail
  go_returns
  have hsz := bytesW_size w s
  have hl : s.data.toList.length = s.size := len_bytes s
  refine ⟨_, w.heap.size, rfl, ⟨⟨bytesCap w s, ?_⟩, ?_, by omega, by omega, by rw [World.size_alloc]; omega⟩, by omega, Nat.le_refl _, (bytesW_below w s).alloc (by omega) _⟩
  · have := Blk.new (bytesW w s) [.slice (some ⟨w.heap.size, 0, none⟩) s.size (bytesCap w s), .int .i64 (8 * s.size), .int .i64 0] TRd
    rw [hl]
    exact this
  · exact (bytesW_is w s).below ((Below.refl _ _).alloc (Nat.le_refl _) _) (by omega)

theorem Rd.kept {w w' : World} {r g : Nat} {s : List UInt8} {a : Nat} (h : Rd w r g s a) (k : Below w.heap.size w w') : Rd w' r g s a := by
  obtain ⟨c, hS⟩ := h.S
  exact ⟨⟨c, hS.below k hS.lt⟩, h.b.below k h.lt, h.le, h.ne, Nat.lt_of_lt_of_le h.lt k.size⟩
set_option maxRecDepth 100000 in
set_option maxHeartbeats 400000 in
theorem rdLeft_is (r g : Nat) (s : List UInt8) (a : Nat) (w : World) (h : Rd w r g s a) (hs : s.length ≤ 100000) (l : Int) (hl : 8 * (s.length : Int) - a = l) : Calls Try.prog 16 #[.pointer (some ⟨r, 0, none⟩)] w fun e w' => e = .returned (.int .i64 l) ∧ Below w.heap.size w w' := by
  obtain ⟨c, hS⟩ := h.S
  have c1 := hS.cell 1 rfl
  have c2 := hS.cell 2 rfl
  have hle := h.le
  rw [Int.natCast_mul, Int.cast_ofNat_Int] at c1
  clear h hS
  go_enter Try.func16, Try.ntmps16
  go_wp2
  go_quiet (fail)
  go_wp2
  go_returns
  exact ⟨by rw [← hl]; rfl, ⟨rfl, rfl, rfl, Nat.le_refl _, fun _ _ => rfl⟩⟩

set_option maxRecDepth 100000 in
set_option maxHeartbeats 400000 in
theorem rdTake_arg (r : Nat) (k : Int) (w : World) (hk : k < 1 ∨ 64 < k) : Calls Try.prog 17 #[.pointer (some ⟨r, 0, none⟩), .int .i64 k] w fun e w' => e = .returned (.tuple #[.int .u64 0, .int .i64 2]) ∧ Below w.heap.size w w' := by
  rcases hk with hk | hk
  · go_enter Try.func17, Try.ntmps17
    go_wp2_with fail
    go_returns
    exact ⟨rfl, Below.refl _ _⟩
  · have hk2 : ¬ k < 1 := by omega
    go_enter Try.func17, Try.ntmps17
    go_wp2_with fail
    go_returns
    exact ⟨rfl, Below.refl _ _⟩
set_option maxRecDepth 100000 in
set_option maxHeartbeats 400000 in
theorem rdTake_space (r g : Nat) (s : List UInt8) (a : Nat) (w : World) (h : Rd w r g s a) (hs : s.length ≤ 100000) (k : Int) (h1 : 1 ≤ k) (h2 : k ≤ 64) (h3 : 8 * (s.length : Int) - a < k) : Calls Try.prog 17 #[.pointer (some ⟨r, 0, none⟩), .int .i64 k] w fun e w' => e = .returned (.tuple #[.int .u64 0, .int .i64 12]) ∧ Below w.heap.size w w' := by
  have hL := fun w h => rdLeft_is r g s a w h hs _ rfl
  go_enter Try.func17, Try.ntmps17
  go_wp2_with fail
  refine (hL _ h).mono ?_
  rintro e w2 ⟨rfl, q2⟩
  go_wp2_with fail
  go_returns
  exact ⟨rfl, q2⟩
set_option maxRecDepth 100000 in
set_option maxHeartbeats 400000 in
theorem rdTake_is (r g : Nat) (s : List UInt8) (a : Nat) (w : World) (h : Rd w r g s a) (hs : s.length ≤ 100000) (k : Nat) (h1 : 1 ≤ k) (h2 : k ≤ 64) (h3 : a + k ≤ 8 * s.length) : Calls Try.prog 17 #[.pointer (some ⟨r, 0, none⟩), .int .i64 k] w fun e w' => e = .returned (.tuple #[.int .u64 (valL (((ubits s).drop a).take k)), .int .i64 0]) ∧ Wrote (fun b => b = r) w w' ∧ Rd w' r g s (a + k) := by
  have hL := fun w h => rdLeft_is r g s a w h hs _ rfl
  have h1' : (1 : Int) ≤ k := by omega
  have h2' : (k : Int) ≤ 64 := by omega
  have h3' : (k : Int) ≤ 8 * (s.length : Int) - a := by omega
  go_enter Try.func17, Try.ntmps17
  go_wp2_with fail
  refine (hL _ h).mono ?_
  rintro e w2 ⟨rfl, q2⟩
  have H2 := Lib.hid (h.kept q2)
  have W2 := Lib.hid (Wrote.ofBelow q2 (fun b => b = r))
  clear h q2
  go_wp2_with fail
  go_loopw [6, 23] (fun v i wr => ∃ j : Nat, j ≤ k ∧ i = .int .i64 j ∧ v = .int .u64 (valL (((ubits s).drop a).take j)) ∧ Hid (Rd wr r g s (a + j)) ∧ Hid (Wrote (fun b => b = r) w wr)) (fun _ i _ => k - (intOf i).toNat)
  case atStart => exact ⟨0, by omega, rfl, rfl, H2, W2⟩
  case round =>
    obtain ⟨j, hj, rfl, rfl, HR, HW⟩ := hrel
    clear H2 W2
    by_cases hlt : j < k
    · have hlt2 : (j : Int) < k := by omega
      obtain ⟨A, hA⟩ : ∃ A, a + j = A := ⟨_, rfl⟩
      rw [hA] at HR
      obtain ⟨q, hq⟩ : ∃ q, A / 8 = q := ⟨_, rfl⟩
      obtain ⟨p, hp⟩ : ∃ p, A % 8 = p := ⟨_, rfl⟩
      obtain ⟨t, ht⟩ : ∃ t, 7 - p = t := ⟨_, rfl⟩
      have hq2 : (A : Int) / 8 = q := by omega
      have hp2 : (A : Int) % 8 = p := by omega
      have ht2 : (7 : Int) - p = t := by omega
      have hqs : q < s.length := by omega
      have hqs2 : (q : Int) < s.length := by omega
      obtain ⟨c, hS⟩ := HR.out.S
      have c0 := hS.cell 0 rfl
      have c2 := hS.cell 2 rfl
      have f2 := hS.free 2
      have cg := (HR.out.b q hqs).1
      go_wp2
      go_quiet (fail)
      have HV : Hid (bits BinOp.or IntKind.u64 (IntKind.u64.wrap (↑(valL (List.take j (List.drop a (ubits s)))) * 2)) (IntKind.u64.wrap (bits BinOp.and IntKind.u8 (↑s[q].toNat / 2 ^ t) 1)) = ((valL (((ubits s).drop a).take (j + 1)) : Nat) : Int)) := Lib.hid (by
        have hv := valL_lt (((ubits s).drop a).take j)
        have h63 : 2 ^ (((ubits s).drop a).take j).length ≤ 2 ^ 63 := Nat.pow_le_pow_right (by omega) (by rw [List.length_take]; omega)
        rw [and_bit8 _ _ s[q].toNat_lt (by omega), step_u64 _ _ (by omega), bit_take_snoc s a j q p t (by rw [hA]; exact hq) (by rw [hA]; exact hp) ht hqs, valL_snoc])
      rw [HV.out]
      obtain ⟨w3, hw3⟩ : ∃ w3, wr.drewN nq = w3 := ⟨_, rfl⟩
      have HS3 : Hid (Blk w3 r [.slice (some ⟨g, 0, none⟩) s.length c, .int .i64 ((8 * s.length : Nat) : Int), .int .i64 (A : Int)] TRd) := Lib.hid (by rw [← hw3]; exact hS)
      have HB3 : Hid (IsBytes w3 g s) := Lib.hid (by rw [← hw3]; exact HR.out.b)
      have HW3 : Hid (Wrote (fun b => b = r) w w3) := Lib.hid (HW.out.trans ⟨by rw [← hw3]; rfl, by rw [← hw3]; rfl, by rw [← hw3]; rfl, by rw [← hw3]; exact Nat.le_refl _, fun k _ _ => by rw [← hw3]; rfl⟩)
      have hlt3 : g < w3.heap.size := by rw [← hw3]; exact HR.out.lt
      have hne := HR.out.ne
      rw [hw3]
      clear hw3 hS c0 c2 f2 cg
      have c2 := HS3.out.cell 2 rfl
      have f2 := HS3.out.free 2
      go_wp2_with fail
      refine ⟨⟨j + 1, by omega, by go_num, rfl, Lib.hid ⟨⟨c, ?_⟩, HB3.out.other _ hne _, by omega, hne, by simpa using hlt3⟩, Lib.hid (HW3.out.trans (Wrote.set _ w3 r 2 _ rfl))⟩, by simp [intOf]; omega⟩
      have hg := HS3.out.set 2 (.int .i64 ((A : Int) + 1))
      rw [show ((a + (j + 1) : Nat) : Int) = (A : Int) + 1 by omega]
      exact hg
    · obtain rfl : j = k := by omega
      go_wp2_with fail
      go_returns
      exact ⟨rfl, HW.out, HR.out⟩

theorem Rd.setOther {w : World} {r g : Nat} {s : List UInt8} {a : Nat} (h : Rd w r g s a) {b : Nat} (hr : b ≠ r) (hg : b ≠ g) (o : Nat) (v : Value) : Rd (w.setCell ⟨b, o, none⟩ v) r g s a := by
  obtain ⟨c, hS⟩ := h.S
  exact ⟨⟨c, hS.other (fun e => hr e.symm)⟩, h.b.other _ hg _, h.le, h.ne, by rw [World.size_setCell]; exact h.lt⟩
/-- The next n bytes of bits. -/
def bytesAt (l : List Bool) (n : Nat) : List UInt8 := (List.range n).map (fun i => UInt8.ofNat (valL ((l.drop (8 * i)).take 8)))
theorem bytesAt_length (l : List Bool) (n : Nat) : (bytesAt l n).length = n := by simp [bytesAt]
theorem bytesAt_succ (l : List Bool) (n : Nat) : bytesAt l (n + 1) = bytesAt l n ++ [UInt8.ofNat (valL ((l.drop (8 * n)).take 8))] := by simp [bytesAt, List.range_succ]
theorem val8_lt (l : List Bool) : valL (l.take 8) < 256 := by
  have hv := valL_lt (l.take 8)
  have h8 : 2 ^ (l.take 8).length ≤ 2 ^ 8 := Nat.pow_le_pow_right (by omega) (by rw [List.length_take]; omega)
  omega
theorem set_mid (L M : List UInt8) (x y : UInt8) (n : Nat) (h : L.length = n) : (L ++ x :: M).set n y = L ++ y :: M := by
  subst h
  rw [List.set_append_right _ _ (Nat.le_refl _), Nat.sub_self]
  rfl
set_option maxRecDepth 100000 in
set_option maxHeartbeats 400000 in
theorem rdBytes_arg (r : Nat) (k : Int) (w : World) (hk : k < 0) : Calls Try.prog 32 #[.pointer (some ⟨r, 0, none⟩), .int .i64 k] w fun e w' => e = .returned (.tuple #[.string ⟨#[]⟩, .int .i64 2]) ∧ Below w.heap.size w w' := by
  go_enter Try.func32, Try.ntmps32
  go_wp2_with fail
  go_returns
  exact ⟨rfl, Below.refl _ _⟩
set_option maxRecDepth 100000 in
set_option maxHeartbeats 400000 in
theorem rdBytes_space (r g : Nat) (s : List UInt8) (a : Nat) (w : World) (h : Rd w r g s a) (hs : s.length ≤ 100000) (k : Int) (h1 : 0 ≤ k) (h3 : (8 * (s.length : Int) - a) / 8 < k) : Calls Try.prog 32 #[.pointer (some ⟨r, 0, none⟩), .int .i64 k] w fun e w' => e = .returned (.tuple #[.string ⟨#[]⟩, .int .i64 12]) ∧ Below w.heap.size w w' := by
  have hle := h.le
  obtain ⟨l, hl⟩ : ∃ l : Int, 8 * (s.length : Int) - a = l := ⟨_, rfl⟩
  have hL := fun w h => rdLeft_is r g s a w h hs l hl
  have hl0 : 0 ≤ l := by omega
  rw [hl] at h3
  go_enter Try.func32, Try.ntmps32
  go_wp2_with fail
  refine (hL _ h).mono ?_
  rintro e w2 ⟨rfl, q2⟩
  go_wp2_with fail
  go_returns
  exact ⟨rfl, q2⟩
set_option maxRecDepth 100000 in
set_option maxHeartbeats 400000 in
theorem rdBytes_is (r g : Nat) (s : List UInt8) (a : Nat) (w : World) (h : Rd w r g s a) (hs : s.length ≤ 1000) (n : Nat) (h3 : a + 8 * n ≤ 8 * s.length) (T : ByteArray) (hT : T.data.toList = bytesAt ((ubits s).drop a) n) : Calls Try.prog 32 #[.pointer (some ⟨r, 0, none⟩), .int .i64 n] w fun e w' => e = .returned (.tuple #[.string T, .int .i64 0]) ∧ Wrote (fun b => b = r) w w' ∧ Rd w' r g s (a + 8 * n) := by
  obtain ⟨l, hl⟩ : ∃ l : Int, 8 * (s.length : Int) - a = l := ⟨_, rfl⟩
  have hL := fun w h => rdLeft_is r g s a w h (by omega) l hl
  have hl0 : 0 ≤ l := by omega
  have h3' : (n : Int) ≤ l / 8 := by omega
  have hn1 : n ≤ 1000 := by omega
  have hmk := fun w => make_run w n (by omega)
  go_enter Try.func32, Try.ntmps32
  go_wp2_with fail
  refine (hL _ h).mono ?_
  rintro e w2 ⟨rfl, q2⟩
  have H2 := h.kept q2
  have H3 : Hid (Rd (makeW w2 n) r g s a) := Lib.hid (H2.kept (makeW_below w2 n))
  have M3 : Hid (IsBytes (makeW w2 n) w2.heap.size (bytesAt ((ubits s).drop a) 0 ++ List.replicate (n - 0) 0)) := Lib.hid (makeW_is w2 n)
  have W3 := Lib.hid ((Wrote.ofBelow q2 (fun b => b = r)).trans (Wrote.ofBelow (makeW_below w2 n) _))
  have hr2 : Hid (r < w2.heap.size ∧ g < w2.heap.size ∧ w.heap.size ≤ w2.heap.size) := Lib.hid ⟨by obtain ⟨c, hS⟩ := H2.S; exact hS.lt, H2.lt, q2.size⟩
  obtain ⟨B, hB⟩ : ∃ B, w2.heap.size = B := ⟨_, rfl⟩
  rw [hB] at M3 hr2
  clear h q2 H2
  go_wp2_with fail
  have hBw : B < (makeW w2 n).heap.size := by rw [makeW_size]; omega
  have HB0 : Hid (B < (makeW w2 n).heap.size) := Lib.hid hBw
  clear hBw hmk
  obtain ⟨w3, hw3⟩ : ∃ w3, makeW w2 n = w3 := ⟨_, rfl⟩
  rw [hw3] at H3 M3 W3 HB0 ⊢
  clear hw3 hB
  go_loopw [26] (fun i wr => ∃ j : Nat, j ≤ n ∧ i = .int .i64 j ∧ Hid (Rd wr r g s (a + 8 * j)) ∧ Hid (IsBytes wr B (bytesAt ((ubits s).drop a) j ++ List.replicate (n - j) 0)) ∧ Hid (Wrote (fun b => b = r) w wr) ∧ Hid (B < wr.heap.size)) (fun i _ => n - (intOf i).toNat)
  case atStart => exact ⟨0, by omega, rfl, H3, M3, W3, HB0⟩
  case round =>
    obtain ⟨j, hj, rfl, HR, HM, HW, HB⟩ := hrel
    clear H3 M3 W3 HB0
    by_cases hlt : j < n
    · have hlt2 : (j : Int) < n := by omega
      go_wp2_with fail
      refine (rdTake_is r g s (a + 8 * j) _ HR.out (by omega) 8 (by omega) (by omega) (by omega)).mono ?_
      rintro e w4 ⟨rfl, k4, R4⟩
      have hv8 := val8_lt ((ubits s).drop (a + 8 * j))
      obtain ⟨x, hx⟩ : ∃ x, valL (((ubits s).drop (a + 8 * j)).take 8) = x := ⟨_, rfl⟩
      rw [hx] at hv8
      have hne : B ≠ r := by have := hr2.out.1; omega
      have M4 : Hid (IsBytes w4 B (bytesAt ((ubits s).drop a) j ++ List.replicate (n - j) 0)) := Lib.hid (fun i hi => ⟨k4.cell (HM.out i hi).1 hne, by
        have e := k4.block B HB.out hne
        have := (HM.out i hi).2
        unfold World.frozen? at *
        rw [e]
        exact this⟩)
      have W4 := Lib.hid (HW.out.trans k4)
      have B4 : Hid (B < w4.heap.size) := Lib.hid (Nat.lt_of_lt_of_le HB.out k4.size)
      have R4 := Lib.hid R4
      have hlen : (bytesAt ((ubits s).drop a) j ++ List.replicate (n - j) (0 : UInt8)).length = n := by rw [List.length_append, bytesAt_length, List.length_replicate]; omega
      have cB := (M4.out j (by omega))
      have cB1 := cB.1
      have cB2 := cB.2
      have hxw : IntKind.u8.wrap (x : Int) = x := by rw [IntKind.wrap_u8]; omega
      rw [hx]
      clear k4 HR HM HW HB
      go_wp2_with fail
      have hm : ((UInt8.ofNat x).toNat : Int) = x := by rw [UInt8.toNat_ofNat', Nat.mod_eq_of_lt hv8]
      refine ⟨⟨j + 1, by omega, by go_num, Lib.hid ?_, Lib.hid ?_, Lib.hid (W4.out.setNew hr2.out.2.2 _ _), Lib.hid (by rw [World.size_setCell]; exact B4.out)⟩, by simp [intOf]; omega⟩
      · exact (R4.out.setOther hne (by have := hr2.out.2.1; omega) _ _)
      · have h5 := M4.out.set j (by omega) (UInt8.ofNat x)
        rw [hm] at h5
        obtain ⟨z, hz⟩ : ∃ z, n - j = z + 1 := ⟨n - j - 1, by omega⟩
        rw [bytesAt_succ, List.drop_drop, hx, show n - (j + 1) = z by omega, List.append_assoc]
        rw [hz, List.replicate_succ, set_mid _ _ _ _ _ (bytesAt_length _ _)] at h5
        exact h5
    · obtain rfl : j = n := by omega
      have hcv : ∀ c, (convert 23 9 (.slice (some ⟨B, 0, none⟩) j c)).run Try.prog wr = .ok (.string T) wr := fun c => string_run_as HM.out c (by rw [List.length_append, bytesAt_length, List.length_replicate]; omega) (by rw [hT, Nat.sub_self, List.replicate_zero, List.append_nil])
      go_wp2_with fail
      go_returns
      exact ⟨rfl, HW.out, HR.out⟩

end Go.Proofs.Ytljdkaajlmcpkaa
