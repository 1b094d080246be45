/-
  aerialref01: Reader.Bytes, New, Writer.Text, by contract.
-/
import Derived.Test.YtljdkaajlmcpkaaBits8
import Derived.Test.YtljdkaajlmcpkaaBits1
import Derived.Laws.AppendOwnNone
namespace Go.Proofs.Ytljdkaajlmcpkaa
open Go.RowKit

set_option maxRecDepth 100000 in
set_option maxHeartbeats 400000 in
theorem rrBytes_arg (r : Nat) (k : Int) (w : World) (hk : k < 0) : Calls Try.prog 33 #[.pointer (some ⟨r, 0, none⟩), .int .i64 k] w fun e w' => e = .returned (.tuple #[.string ⟨#[]⟩, .int .i64 2]) ∧ Below w.heap.size w w' := by
  go_enter Try.func33, Try.ntmps33
  go_wp2_with fail
  go_returns
  exact ⟨rfl, Below.refl _ _⟩
set_option maxRecDepth 100000 in
set_option maxHeartbeats 400000 in
theorem rrBytes_space {B : Nat} (r : Nat) (l : List Bool) (w : World) (h : RdR B w r l) (hl : l.length ≤ 100000) (k : Int) (h1 : 0 ≤ k) (h3 : (l.length : Int) / 8 < k) : Calls Try.prog 33 #[.pointer (some ⟨r, 0, none⟩), .int .i64 k] w fun e w' => e = .returned (.tuple #[.string ⟨#[]⟩, .int .i64 12]) ∧ Below w.heap.size w w' := by
  obtain ⟨a, c, hS, -⟩ := h.ex
  have c0 := hS.cell 0 rfl
  clear h hS
  go_enter Try.func33, Try.ntmps33
  go_wp2_with fail
  go_returns
  exact ⟨rfl, Below.refl _ _⟩
theorem RdR.alloc {B : Nat} {w : World} {r : Nat} {l : List Bool} (h : RdR B w r l) (o : Obj) : RdR B (w.alloc o) r l := h.kept ((Below.refl _ _).alloc (Nat.le_refl _) o)
set_option maxRecDepth 100000 in
set_option maxHeartbeats 400000 in
theorem rrBytes_is {B : Nat} (r : Nat) (l : List Bool) (w : World) (h : RdR B w r l) (hl : l.length ≤ 100000) (n : Nat) (hn : n ≤ 1000) (h3 : 8 * n ≤ l.length) (T : ByteArray) (hT : T.data.toList = bytesAt l n) : Calls Try.prog 33 #[.pointer (some ⟨r, 0, none⟩), .int .i64 n] w fun e w' => e = .returned (.tuple #[.string T, .int .i64 0]) ∧ Wrote (fun b => b = r) w w' ∧ RdR B w' r (l.drop (8 * n)) := by
  have H0 := Lib.hid h
  have c0 : ∃ a c, w.cell? ⟨r, 0, none⟩ = some (.slice a l.length c) := by
    obtain ⟨a, c, hS, -⟩ := h.ex
    exact ⟨a, c, hS.cell 0 rfl⟩
  obtain ⟨a, c, c0⟩ := c0
  have hdiv : (n : Int) ≤ (l.length : Int) / 8 := by omega
  clear h
  go_enter Try.func33, Try.ntmps33
  go_wp2_with fail
  go_loopw [6, 7] (fun v i wr => ∃ j : Nat, ∃ S : ByteArray, j ≤ n ∧ i = .int .i64 j ∧ v = .string S ∧ S.data.toList = bytesAt l j ∧ Hid (RdR B wr r (l.drop (8 * j))) ∧ Hid (Wrote (fun b => b = r) w wr)) (fun _ i _ => n - (intOf i).toNat)
  case atStart => exact ⟨0, ⟨#[]⟩, by omega, rfl, rfl, rfl, H0, Lib.hid (Wrote.refl _ _)⟩
  case round =>
    rename_i wr
    obtain ⟨j, S, hj, rfl, rfl, hS, HR, HW⟩ := hrel
    clear c0 H0
    by_cases hlt : j < n
    · have hlt2 : (j : Int) < n := by omega
      have hSs : S.size = j := by rw [← len_bytes, hS, bytesAt_length]
      have HT := Lib.hid (rrTake_is r (l.drop (8 * j)) wr HR.out 8 (by omega) (by omega) (by rw [List.length_drop]; omega))
      have hv8 := val8_lt (l.drop (8 * j))
      have hb := bytesAt_succ l j
      rw [List.drop_drop] at HT
      obtain ⟨x, hx⟩ : ∃ x, valL ((l.drop (8 * j)).take 8) = x := ⟨_, rfl⟩
      rw [hx] at hv8 HT hb
      have hxw : IntKind.u8.wrap (x : Int) = x := by rw [IntKind.wrap_u8]; omega
      obtain ⟨X, hX⟩ := bytes_as [UInt8.ofNat x]
      have hXs : X.size = 1 := bytes_as_size hX
      have hcv : ∀ (y : World) c, (convert 23 9 (.slice (some ⟨y.heap.size, 0, none⟩) 1 c)).run Try.prog (y.alloc (.cells #[.int .u8 (x : Int)] 5)) = .ok (.string X) (y.alloc (.cells #[.int .u8 (x : Int)] 5)) := fun y c => by
        have e : X = ⟨#[UInt8.ofNat ((x : Int)).toNat]⟩ := by
          apply ByteArray.ext
          exact Array.toList_inj.1 (by rw [hX]; rfl)
        rw [e]
        exact conv_one y x c
      have HB := Lib.hid (show (S ++ X).data.toList = bytesAt l (j + 1) by rw [ByteArray.data_append, Array.toList_append, hS, hX, hb])
      clear hx hb hX hS
      go_wp2_with fail
      refine HT.out.mono ?_
      rintro e w4 ⟨rfl, k4, R4⟩
      have R4 := Lib.hid R4
      have K4 := Lib.hid (HW.out.trans k4)
      clear k4 HT HR HW
      go_wp2_with fail
      exact ⟨⟨j + 1, S ++ X, by omega, by go_num, rfl, HB.out, Lib.hid (R4.out.alloc _), Lib.hid (K4.out.trans (Wrote.alloc _ _ _))⟩, by simp [intOf]; omega⟩
    · obtain rfl : j = n := by omega
      go_wp2_with fail
      go_returns
      have e : S = T := by
        apply ByteArray.ext
        exact Array.toList_inj.1 (by rw [hS, hT])
      exact ⟨by rw [e]; rfl, HW.out, HR.out⟩
set_option maxRecDepth 100000 in
set_option maxHeartbeats 400000 in
theorem rrNew_is (s : ByteArray) (hs : s.size ≤ 1000) (w : World) : Calls Try.prog 31 #[.string s] w fun e w' => ∃ r, e = .returned (.pointer (some ⟨r, 0, none⟩)) ∧ RdR w.heap.size w' r (ubits s.data.toList) ∧ w.heap.size ≤ r ∧ Below w.heap.size w w' := by
  have h0 : Rw (w.alloc (.cells #[.slice none 0 0] TRw)) w.heap.size (.slice none 0 0) [] := ⟨Blk.new w [.slice none 0 0] TRw, Row.nil _ _ _, by simp [Value.ownBlock]⟩
  go_enter Try.func31, Try.ntmps31
  go_wp2_with fail
  refine (rwBytes_is _ _ [] s hs (by decide) _ h0).mono ?_
  rintro e w2 ⟨⟨u, rfl⟩, v, k1, k2, k3⟩
  rw [List.nil_append] at k1
  have c0 := k1.S.cell 0 rfl
  have hb := k1.b
  obtain ⟨a, cap, hv⟩ := hb.form
  have hlt := k1.S.lt
  have hsz := k2.size
  have HK3 := Lib.hid k3
  have Q2 : Hid (Below w.heap.size w w2) := Lib.hid (Wrote.below (p := fun k => k = w.heap.size) ((Below.refl _ _).alloc (Nat.le_refl _) _) (k2.mono (fun k hk => by
    rcases hk with hk | hk
    · exact hk
    · simp [Value.ownBlock] at hk)) (fun i hi => by omega))
  have HB := Lib.hid hb
  rw [boolV_length] at hv
  subst hv
  clear k1 k2 k3 hb h0
  go_wp2_with fail
  go_returns
  refine ⟨_, rfl, ⟨a, cap, Blk.new w2 [_] TRR, fun hl => ?_⟩, Q2.out.size, Q2.out.alloc Q2.out.size _⟩
  obtain ⟨g, cap', hv, _, hg, h1, h2⟩ := HB.out.at (by rw [boolV_length]; exact hl)
  rw [boolV_length] at hv h1
  simp at hv
  obtain ⟨rfl, rfl⟩ := hv
  refine ⟨g, 0, rfl, h1, h2, by omega, by simp; omega, (HB.out.bools).below ((Below.refl _ _).alloc (Nat.le_refl _) _) hg, ?_⟩
  rcases HK3.out g rfl with h | h
  · simp [Value.ownBlock] at h
  · simp at h
    omega

end Go.Proofs.Ytljdkaajlmcpkaa
