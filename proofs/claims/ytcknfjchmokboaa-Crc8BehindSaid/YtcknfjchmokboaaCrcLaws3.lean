/-
  Crc8Behind, Crc8Joins: the walks.
-/
import Derived.Test.YtcknfjchmokboaaCrcLaws
namespace Go.Proofs.Ytcknfjchmokboaa
open Go.RowKit

theorem crcL_two (a b : List UInt8) (h : crcL a = 0) : crcL (a ++ b) = crcL b := by rw [crcL_append, h, crcF_zero]

set_option maxRecDepth 100000 in
set_option maxHeartbeats 400000 in
theorem behind_core (a b : ByteArray) (bt : Int) (w : World) (a1 b1 : ByteArray) (ha : a.size ≤ maxLen) (hb : b.size ≤ maxLen) (hbt : 0 ≤ bt ∧ bt ≤ 255)
    (ea : ((a.size : Int) ≤ 2000 ∧ a1 = a) ∨ ((2000 : Int) < (a.size : Int) ∧ a.extract 0 2000 = a1)) (eb : ((b.size : Int) ≤ 2000 ∧ b1 = b) ∨ ((2000 : Int) < (b.size : Int) ∧ b.extract 0 2000 = b1))
    (ha1 : a1.size ≤ 2000) (hb1 : b1.size ≤ 2000) :
    Calls Try.prog 6 #[.string a, .string b, .int .u8 bt] w fun e w' => e = .returned (.bool true) ∧ Below w.heap.size w w' := by
  obtain ⟨bt, rfl⟩ := Int.eq_ofNat_of_zero_le hbt.1
  obtain ⟨hbt1, hbt2⟩ := hbt
  unfold maxLen at ha hb
  rcases ea with ⟨ea, rfl⟩ | ⟨ea, xa⟩
  all_goals rcases eb with ⟨eb, rfl⟩ | ⟨eb, xb⟩
  all_goals
    go_enter Try.func6, Try.ntmps6
    go_wp2_with fail
    refine (works02 _).mono ?_
    rintro e w1 ⟨rfl, q1⟩
    go_wp2_with fail
    have hne : Nonempty (WIn (Below w1.heap.size w1)) := ⟨⟨_, Below.refl _ _⟩⟩
    refine wp_region_inv (Below w1.heap.size w1) (by kernel_rfl) (by kernel_rfl) (Below.refl _ _).drew ?_
    repeat (go_big_quiet_step ((go_at_call 16; exact quiet_call _ (closed_any _ _ (by omega)))))
    refine wpQuiet_nil ?_
    intro w2 q2
    have hmk := make_run w2 bt (by omega)
    obtain ⟨z, hzl, hzs, hst⟩ : ∃ z : ByteArray, z.data.toList = List.replicate bt 0 ∧ z.size = bt ∧ (convert 26 9 (.slice (some ⟨w2.heap.size, 0, none⟩) bt bt)).run Try.prog (makeW w2 bt) = .ok (.string z) (makeW w2 bt) :=
      ⟨⟨(List.replicate bt 0).toArray⟩, rfl, by rw [size_mk, List.length_replicate], string_run (makeW_is w2 bt) bt bt List.length_replicate⟩
    have q3 := makeW_below w2 bt
    have cx := closedB_list a1
    have cy := closedB_list b1
    have sx := closedB_size a1
    have sy := closedB_size b1
    have zx : crcL (closedB a1).data.toList = 0 := by rw [cx]; exact crcL_closed _
    have zy : crcL (closedB b1).data.toList = 0 := by rw [cy]; exact crcL_closed _
    have hz1 : crcL ((closedB a1).data.toList ++ z.data.toList) = 0 := by rw [crcL_two _ _ zx, hzl]; exact crcL_zeros bt
    have hz2 : crcL ((closedB a1).data.toList ++ (closedB b1).data.toList) = 0 := by rw [crcL_two _ _ zx]; exact zy
    have hz3 : crcL ((closedB a1).data.toList ++ (z.data.toList ++ b1.data.toList)) = crcL b1.data.toList := by
      rw [crcL_two _ _ zx, hzl]
      exact crcL_two _ _ (crcL_zeros bt)
    have hzs2 : z.size ≤ 255 := by omega
    clear cx cy zx zy hzl hzs
    generalize closedB a1 = xx at *
    generalize closedB b1 = yy at *
    generalize makeW w2 bt = w3 at *
    have sx1 : xx.size ≤ 2001 := by omega
    have sy1 : yy.size ≤ 2001 := by omega
    clear sx sy
    have HZ := Lib.hid (And.intro hz1 (And.intro hz2 hz3))
    go_wp2_with fail
    clear hmk hst
    have hne3 : Nonempty (WIn (Below w3.heap.size w3)) := ⟨⟨_, Below.refl _ _⟩⟩
    refine wp_region_inv (Below w3.heap.size w3) (by kernel_rfl) (by kernel_rfl) (Below.refl _ _).drew ?_
    repeat (go_big_quiet_step ((go_at_call 13; exact quiet_call _ (sum_any _ _ (by simp [maxLen]; omega)))))
    refine wpQuiet_nil ?_
    intro w4 q4
    go_wp2_with fail
    go_returns
    exact ⟨rfl, bthen q1 (bthen q2 (bthen q3 q4))⟩

theorem cut_2000 (a : ByteArray) : ∃ a1 : ByteArray, (((a.size : Int) ≤ 2000 ∧ a1 = a) ∨ ((2000 : Int) < (a.size : Int) ∧ a.extract 0 2000 = a1)) ∧ a1.size ≤ 2000 := by
  by_cases h : (a.size : Int) ≤ 2000
  · exact ⟨a, .inl ⟨h, rfl⟩, by omega⟩
  · exact ⟨a.extract 0 2000, .inr ⟨by omega, rfl⟩, by simp; omega⟩
theorem behind_walk (a b : ByteArray) (bt : Int) (w : World) (ha : a.size ≤ maxLen) (hb : b.size ≤ maxLen) (hbt : 0 ≤ bt ∧ bt ≤ 255) :
    Calls Try.prog 6 #[.string a, .string b, .int .u8 bt] w fun e w' => e = .returned (.bool true) ∧ Below w.heap.size w w' := by
  obtain ⟨a1, ea, ha1⟩ := cut_2000 a
  obtain ⟨b1, eb, hb1⟩ := cut_2000 b
  exact behind_core a b bt w a1 b1 ha hb hbt ea eb ha1 hb1

theorem run_min4 (P : Program) (w : World) (ts : Array TypeId) (t : TypeId) (x y z n : Nat) (u : Int) (h : (n : Int) = min (min (min (x : Int) y) z) u) :
    (Builtin.min_ ts t #[.int .i64 (x : Int), .int .i64 (y : Int), .int .i64 (z : Int), .int .i64 u]).run P w = .ok (.int .i64 (n : Int)) w := by
  rw [h]
  simp [Builtin.min_, Builtin.min2]
  repeat' split
  all_goals omega

set_option maxRecDepth 100000 in
set_option maxHeartbeats 400000 in
theorem joins_walk (a b : ByteArray) (a2 : Option Addr) (len2 cap2 : Nat) (z2 : List Int) (w : World) (ha : a.size ≤ maxLen) (hb : b.size ≤ maxLen) (hr : IsRow .u8 w a2 len2 cap2 z2) :
    Calls Try.prog 5 #[.string a, .string b, .slice a2 len2 cap2] w fun e w' => e = .returned (.bool true) ∧ Below w.heap.size w w' := by
  unfold maxLen at ha hb
  obtain ⟨n, hn⟩ : ∃ n, n = min (min (min a.size b.size) len2) 2000 := ⟨_, rfl⟩
  have hmin := fun (w : World) (ts : Array TypeId) (t : TypeId) => run_min4 Try.prog w ts t a.size b.size len2 n 2000 (by omega)
  have hna : n ≤ a.size := by omega
  have hnb : n ≤ b.size := by omega
  have hnl : n ≤ len2 := by omega
  have hn2 : n ≤ 2000 := by omega
  have hlen := hr.len_le.2
  unfold maxLen at hlen
  clear hn
  go_enter Try.func5, Try.ntmps5
  go_wp2_with fail
  refine (works02 _).mono ?_
  rintro e w1 ⟨rfl, q1⟩
  have hbr := bytes_run
  go_wp2_with fail
  go_cut [8, 9] (fun vx vy wc => ∃ (bx by' cx cy : Nat), vx = .slice (some ⟨bx, 0, none⟩) n cx ∧ vy = .slice (some ⟨by', 0, none⟩) n cy ∧ bx ≠ by' ∧ w.heap.size ≤ bx ∧ w.heap.size ≤ by' ∧
    bx < wc.heap.size ∧ by' < wc.heap.size ∧ IsBytes wc bx (a.data.toList.take n) ∧ IsBytes wc by' (b.data.toList.take n) ∧ Below w.heap.size w wc)
  case first =>
    clear hmin
    go_region
    all_goals go_wp2
    all_goals go_meet
    · have h := two_bytes w1.drew (a.extract 0 n) (b.extract 0 n)
      rw [extract_list, extract_list] at h
      obtain ⟨h1, h2, h3, h4⟩ := h
      have hs := q1.size
      exact ⟨_, _, _, _, rfl, rfl, by rw [bytesW_size]; show w1.heap.size ≠ w1.heap.size + 1; omega, hs, by rw [bytesW_size]; show _ ≤ w1.heap.size + 1; omega, by rw [h4]; show w1.heap.size < w1.heap.size + 2; omega,
        by rw [h4, bytesW_size]; omega, h1, h2, bthen q1 (((Below.refl _ _).drew).trans h3)⟩
    · have h := two_bytes w1.drew (b.extract 0 n) (a.extract 0 n)
      rw [extract_list, extract_list] at h
      obtain ⟨h1, h2, h3, h4⟩ := h
      have hs := q1.size
      exact ⟨_, _, _, _, rfl, rfl, by rw [bytesW_size]; show w1.heap.size + 1 ≠ w1.heap.size; omega, by rw [bytesW_size]; show _ ≤ w1.heap.size + 1; omega, hs, by rw [h4, bytesW_size]; omega,
        by rw [h4]; show w1.heap.size < w1.heap.size + 2; omega, h2, h1, bthen q1 (((Below.refl _ _).drew).trans h3)⟩
  case rest =>
    clear hbr hmin
    obtain ⟨bx, by', cx, cy, rfl, rfl, hne, hbx, hby, hbx2, hby2, hx, hy, hbw⟩ := hcut
    have hlx : (a.data.toList.take n).length = n := by rw [List.length_take, len_bytes]; omega
    have hly : (b.data.toList.take n).length = n := by rw [List.length_take, len_bytes]; omega
    obtain ⟨SX, hSX⟩ := bytes_as (a.data.toList.take n)
    obtain ⟨SY, hSY⟩ := bytes_as (b.data.toList.take n)
    have sx := bytes_as_size hSX
    have sy := bytes_as_size hSY
    rw [hlx] at sx
    rw [hly] at sy
    rw [← hSX] at hx
    rw [← hSY] at hy
    have Hx := Lib.hid hx
    have Hy := Lib.hid hy
    have Sx := Lib.hid sx
    have Sy := Lib.hid sy
    have sxl : SX.size ≤ 2000 := by omega
    have syl : SY.size ≤ 2000 := by omega
    clear hSX hSY hlx hly hx hy sx sy
    have hsx : ∀ x : WIn (Below wc.heap.size wc), (convert 26 9 (.slice (some ⟨bx, 0, none⟩) n cx)).run Try.prog x.val = .ok (.string SX) x.val := fun x => string_run_as (Hx.out.below x.property hbx2) cx (by rw [len_bytes, Sx.out]) rfl
    have hsy : ∀ x : WIn (Below wc.heap.size wc), (convert 26 9 (.slice (some ⟨by', 0, none⟩) n cy)).run Try.prog x.val = .ok (.string SY) x.val := fun x => string_run_as (Hy.out.below x.property hby2) cy (by rw [len_bytes, Sy.out]) rfl
    have hcx := crcL_lt SX.data.toList
    have hcy := crcL_lt SY.data.toList
    have hxo := xor_u8 (crcL SX.data.toList) (crcL SY.data.toList) hcx hcy
    have hne1 : Nonempty (WIn (Below wc.heap.size wc)) := ⟨⟨_, Below.refl _ _⟩⟩
    go_wp2_with fail
    refine wp_region_inv (Below wc.heap.size wc) (by kernel_rfl) (by kernel_rfl) (Below.refl _ _).drew ?_
    repeat (go_big_quiet_step ((go_at_call 13; exact quiet_call _ (sum_any _ _ (by simp [maxLen]; omega)))))
    refine wpQuiet_nil ?_
    intro w4 q4
    clear hsx hsy hxo
    generalize hbe : crcL SX.data.toList ^^^ crcL SY.data.toList = before
    have HB := Lib.hid hbe
    clear hbe
    go_wp2_with fail
    have Hx4 := Lib.hid (Hx.out.below q4 hbx2)
    have Hy4 := Lib.hid (Hy.out.below q4 hby2)
    have hbw4 := Lib.hid (bthen hbw q4)
    have h41 : bx < w4.heap.size := by have := q4.size; omega
    have h42 : by' < w4.heap.size := by have := q4.size; omega
    clear hbw Hx Hy q4 hcx hcy
    go_loopw [11] (fun i wr => ∃ (k : Nat) (X Y : List UInt8), k ≤ n ∧ i = .int .i64 k ∧ X.length = n ∧ Y.length = n ∧ crcL X ^^^ crcL Y = before ∧ IsBytes wr bx X ∧ IsBytes wr by' Y ∧ bx < wr.heap.size ∧ by' < wr.heap.size ∧ Below w.heap.size w wr) (fun i _ => n - (intOf i).toNat)
    case atStart => exact ⟨0, _, _, Nat.zero_le _, rfl, by rw [len_bytes]; exact Sx.out, by rw [len_bytes]; exact Sy.out, HB.out, Hx4.out, Hy4.out, h41, h42, hbw4.out⟩
    case round =>
      obtain ⟨k, X, Y, hk, rfl, hlX, hlY, hXY, hx, hy, h1, h2, hbl⟩ := hrel
      clear Hx4 Hy4 hbw4 h41 h42 HB Sx Sy
      by_cases hlt : k < n
      · obtain ⟨b2, off, rfl, hb2, hcl⟩ := hr.at (j := k) (by omega)
        obtain ⟨m, hm⟩ : ∃ m : UInt8, (m.toNat : Int) = z2.getD k 0 := by
          have hz := hr.wf (z2.getD k 0) (by
            have hzl := hr.len_le.1
            rw [List.getD_eq_getElem?_getD, List.getElem?_eq_getElem (by omega)]
            exact List.getElem_mem _)
          have hz2 := bounds_u8 hz
          exact ⟨UInt8.ofNat (z2.getD k 0).toNat, by rw [UInt8.toNat_ofNat']; omega⟩
        have hcm := hcl k (by omega)
        rw [← hm] at hcm
        have hcw : wr.cell? ⟨b2, off + k, none⟩ = some (.int .u8 (m.toNat : Int)) := (hbl.cell (p := ⟨b2, off + k, none⟩) hb2).trans hcm
        have hkX : k < X.length := by omega
        have hkY : k < Y.length := by omega
        have hcX := (hx k hkX).1
        have hfX := (hx k hkX).2
        have hcY := (hy k hkY).1
        have hfY := (hy k hkY).2
        have hne2 : b2 ≠ bx := by omega
        have hne3 : b2 ≠ by' := by omega
        have HXY := Lib.hid hXY
        have HX := Lib.hid hx
        have HY := Lib.hid hy
        have HlX := Lib.hid hlX
        have HlY := Lib.hid hlY
        clear hXY hx hy hlX hlY hcl hcm hm hr
        go_wp2
        go_region
        go_wp2
        rw [xorU]
        have HX5 := Lib.hid ((HX.out.set k hkX (X[k] ^^^ m)).drew)
        have hY5 := (HY.out.other (⟨bx, k, none⟩ : Addr) hne (.int .u8 ((X[k] ^^^ m).toNat : Int))).drew
        have hcw5 : ((wr.setCell ⟨bx, k, none⟩ (.int .u8 ((X[k] ^^^ m).toNat : Int))).drew).cell? ⟨b2, off + k, none⟩ = some (.int .u8 (m.toNat : Int)) :=
          (World.cell?_setCell_other wr ⟨bx, k, none⟩ ⟨b2, off + k, none⟩ _ (fun e => hne2 (by injection e with e1; exact e1.symm))).trans hcw
        have hbl5 := Lib.hid ((hbl.setCell (p := ⟨bx, k, none⟩) hbx (.int .u8 ((X[k] ^^^ m).toNat : Int))).drew)
        have hs5 : wr.heap.size = ((wr.setCell ⟨bx, k, none⟩ (.int .u8 ((X[k] ^^^ m).toNat : Int))).drew).heap.size := by simp
        rw [hs5] at h1 h2
        clear hs5 hcw hcX hfX hcY hfY hbl
        generalize (wr.setCell ⟨bx, k, none⟩ (.int .u8 ((X[k] ^^^ m).toNat : Int))).drew = w5 at *
        have hcY5 := (hY5 k hkY).1
        have hfY5 := (hY5 k hkY).2
        have HY5 := Lib.hid hY5
        clear hY5
        go_region
        go_wp2
        rw [xorU]
        refine ⟨⟨k + 1, X.set k (X[k] ^^^ m), Y.set k (Y[k] ^^^ m), by omega, by go_num, by rw [List.length_set]; exact HlX.out, by rw [List.length_set]; exact HlY.out, ?_, ?_, ?_, by simpa using h1, by simpa using h2, ?_⟩, by simp [intOf]; omega⟩
        · rw [xor_both X Y k n HlX.out HlY.out hkX hkY m]; exact HXY.out
        · exact (HX5.out.other (⟨by', k, none⟩ : Addr) (Ne.symm hne) _).drew
        · exact (HY5.out.set k hkY _).drew
        · exact (hbl5.out.setCell hby _).drew
      · obtain rfl : k = n := by omega
        obtain ⟨SX2, hSX⟩ := bytes_as X
        obtain ⟨SY2, hSY⟩ := bytes_as Y
        have sx := bytes_as_size hSX
        have sy := bytes_as_size hSY
        rw [hlX] at sx
        rw [hlY] at sy
        rw [← hSX, ← hSY] at hXY
        rw [← hSX] at hx
        rw [← hSY] at hy
        have HXY := Lib.hid hXY
        have Hx := Lib.hid hx
        have Hy := Lib.hid hy
        have Sx := Lib.hid sx
        have Sy := Lib.hid sy
        have sxl2 : SX2.size ≤ 2000 := by omega
        have syl2 : SY2.size ≤ 2000 := by omega
        clear hSX hSY hlX hlY hx hy sx sy hXY
        go_wp2_with fail
        obtain ⟨m, hm⟩ : ∃ m : Nat, (m : Int) = (k : Int) % 40 := ⟨k % 40, by omega⟩
        have hm39 : m ≤ 39 := by omega
        rw [← hm]
        clear hm
        have hmk := make_run wr m (by omega)
        obtain ⟨z, hzl⟩ := bytes_as (List.replicate m 0)
        have hzs := bytes_as_size hzl
        rw [List.length_replicate] at hzs
        have hst := string_run_as (makeW_is wr m) m List.length_replicate hzl
        have q6 := makeW_below wr m
        have Hx6 := Lib.hid (Hx.out.below q6 h1)
        have Hy6 := Lib.hid (Hy.out.below q6 h2)
        have h16 : bx < (makeW wr m).heap.size := by have := q6.size; omega
        have h26 : by' < (makeW wr m).heap.size := by have := q6.size; omega
        have hcz : crcL (z.data.toList ++ SX2.data.toList) = crcL SX2.data.toList := by rw [hzl]; exact crcL_two _ _ (crcL_zeros m)
        have hbl6 := Lib.hid (bthen hbl q6)
        have hzs2 : z.size ≤ 39 := by omega
        clear hzl hzs Hx Hy h1 h2 hbl q6
        generalize makeW wr m = w6 at *
        rw [hmk, Result.andThen_ok]
        go_wp2_with fail
        clear hmk hst
        have hsx : ∀ x : WIn (Below w6.heap.size w6), (convert 26 9 (.slice (some ⟨bx, 0, none⟩) k cx)).run Try.prog x.val = .ok (.string SX2) x.val := fun x => string_run_as (Hx6.out.below x.property h16) cx (by rw [len_bytes, Sx.out]) rfl
        have hsy : ∀ x : WIn (Below w6.heap.size w6), (convert 26 9 (.slice (some ⟨by', 0, none⟩) k cy)).run Try.prog x.val = .ok (.string SY2) x.val := fun x => string_run_as (Hy6.out.below x.property h26) cy (by rw [len_bytes, Sy.out]) rfl
        have hcx2 := crcL_lt SX2.data.toList
        have hcy2 := crcL_lt SY2.data.toList
        have hxo := xor_u8 (crcL SX2.data.toList) (crcL SY2.data.toList) hcx2 hcy2
        rw [HXY.out] at hxo
        have hne6 : Nonempty (WIn (Below w6.heap.size w6)) := ⟨⟨_, Below.refl _ _⟩⟩
        refine wp_region_inv (Below w6.heap.size w6) (by kernel_rfl) (by kernel_rfl) (Below.refl _ _).drew ?_
        repeat (go_big_quiet_step ((go_at_call 13; exact quiet_call _ (sum_any _ _ (by simp [maxLen]; omega)))))
        refine wpQuiet_nil ?_
        intro w7 q7
        go_wp2_with fail
        go_returns
        exact ⟨rfl, bthen hbl6.out q7⟩

end Go.Proofs.Ytcknfjchmokboaa
