/-
  report.Encode, report.Decode: by contract.
-/
import Derived.Test.YtljdkaajlmcpkaaReport
import Derived.Test.YtljdkaajlmcpkaaBytes
import Derived.Test.YtljdkaajlmcpkaaCrc
namespace Go.Proofs.Ytljdkaajlmcpkaa
open Go.RowKit

def numL (l : List UInt8) : Nat := l.foldl (fun n c => n * 256 + c.toNat) 0
theorem numL_snoc (l : List UInt8) (c : UInt8) : numL (l ++ [c]) = numL l * 256 + c.toNat := by simp [numL]
theorem numL_lt : ∀ l : List UInt8, numL l < 256 ^ l.length := by
  intro l
  suffices h : ∀ (l : List UInt8) (n m : Nat), n < m → l.foldl (fun n c => n * 256 + c.toNat) n < m * 256 ^ l.length by
    have := h l 0 1 (by omega)
    rw [Nat.one_mul] at this
    exact this
  intro l
  induction l with
  | nil => intro n m h; simpa using h
  | cons c l ih =>
    intro n m h
    have := ih (n * 256 + c.toNat) (m * 256) (by have := c.toNat_lt; omega)
    rw [List.length_cons, Nat.pow_succ, Nat.mul_comm (256 ^ l.length), ← Nat.mul_assoc]
    exact this

theorem i64_or_nat (a b : Nat) (ha : a < 9223372036854775808) (hb : b < 9223372036854775808) : bits .or .i64 (a : Int) (b : Int) = ((a ||| b : Nat) : Int) := by
  have hx : a ||| b < 2 ^ 63 := Nat.or_lt_two_pow (by omega) (by omega)
  show IntKind.i64.wrap ((BitVec.ofInt 64 (a : Int) ||| BitVec.ofInt 64 (b : Int)).toNat : Int) = _
  have o (a : Nat) (ha : a < 9223372036854775808) : (BitVec.ofInt 64 (a : Int)).toNat = a := by
    rw [BitVec.ofInt_natCast, BitVec.toNat_ofNat]; exact Nat.mod_eq_of_lt (by omega)
  rw [BitVec.toNat_or, o a ha, o b hb, IntKind.wrap_i64]
  omega
theorem or_byte (n c : Nat) (hn : n < 16777216) (hc : c < 256) : bits BinOp.or IntKind.i64 ((n : Int) * 256) (c : Int) = ((n * 256 + c : Nat) : Int) := by
  have e3 : n * 256 ||| c = n * 256 + c := by
    rw [Nat.mul_comm]
    exact (Nat.two_pow_add_eq_or_of_lt (i := 8) (by omega) n).symm
  rw [← e3, ← i64_or_nat _ _ (by omega) (by omega), Int.natCast_mul]
  rfl

set_option maxRecDepth 100000 in
set_option maxHeartbeats 400000 in
theorem number_is (s : ByteArray) (w : World) (hs : s.size ≤ 4) : Calls Try.prog 44 #[.string s] w fun e w' => e = .returned (.int .i64 (numL s.data.toList)) ∧ w = w' := by
  go_enter Try.func44, Try.ntmps44
  go_wp2_with fail
  go_loop [3, 7] (fun n i => ∃ k : Nat, k ≤ s.size ∧ i = .int .i64 k ∧ n = .int .i64 (numL (s.data.toList.take k))) (fun _ i => s.size - (intOf i).toNat)
  case atStart => exact ⟨0, by omega, rfl, rfl⟩
  case round =>
    obtain ⟨k, hk, rfl, rfl⟩ := hrel
    by_cases hlt : k < s.size
    · have hl := numL_lt (s.data.toList.take k)
      have hl2 : numL (s.data.toList.take k) < 16777216 := by
        have hk3 : k ≤ 3 := by omega
        have : 256 ^ (s.data.toList.take k).length ≤ 256 ^ 3 := Nat.pow_le_pow_right (by omega) (by rw [List.length_take]; omega)
        omega
      have hc := s[k].toNat_lt
      have HOR : Hid (bits BinOp.or IntKind.i64 (↑(numL (s.data.toList.take k)) * 256) ↑s[k].toNat = ((numL (s.data.toList.take (k + 1)) : Nat) : Int)) := Lib.hid (by
        rw [take_snoc s k hlt, numL_snoc]
        exact or_byte _ _ hl2 hc)
      clear hl
      go_wp2_with fail
      exact ⟨⟨k + 1, by omega, by go_num, by rw [HOR.out]⟩, by simp [intOf]; omega⟩
    · obtain rfl : k = s.size := by omega
      go_wp2_with fail
      go_returns
      exact ⟨by rw [List.take_of_length_le (by rw [len_bytes]; omega)]; rfl, rfl⟩

set_option maxRecDepth 100000 in
set_option maxHeartbeats 400000 in
theorem encode_no (t q x : Int) (h : repE t q x ≠ 0) (w : World) : Calls Try.prog 23 #[repV t q x] w fun e w' => e = .returned (.tuple #[.string ⟨#[]⟩, .int .i64 (repE t q x)]) ∧ Below w.heap.size w w' := by
  go_enter Try.func23, Try.ntmps23
  go_wp2_with fail
  refine (check_is t q x _).mono ?_
  rintro e w1 ⟨rfl, b1⟩
  go_wp2_with fail
  go_returns
  exact ⟨rfl, ((Below.refl _ _).alloc (Nat.le_refl _) _).trans (b1.mono (by simp))⟩

/-- The seven bytes ahead of the sum. -/
def repN (T Q X : Nat) : List Nat := [T, Q / 16777216, Q / 65536 % 256, Q / 256 % 256, Q % 256, X / 256, X % 256]
def repL (T Q X : Nat) : List UInt8 := (repN T Q X).map UInt8.ofNat
def repS (T Q X : Nat) : ByteArray := ⟨(repL T Q X).toArray⟩
def repB (T Q X : Nat) : ByteArray := ⟨(repL T Q X ++ [UInt8.ofNat (crcL (repL T Q X))]).toArray⟩
theorem repE_ok (T Q X : Nat) (h1 : T < 8) (h2 : 0 < Q) (h4 : X ≤ 10000) : repE T Q ((X : Int) - 5000) = 0 := by
  have e1 : termE T = 0 := by
    unfold termE
    rw [if_pos (by omega)]
  have e2 : seqE Q = 0 := by
    unfold seqE
    rw [if_pos (by omega)]
  unfold repE
  rw [e1, e2]
  show esE _ = 0
  unfold esE
  rw [if_pos (by omega)]
/-- The string of the first bytes of a block. -/
theorem conv_nat (w : World) (b : Nat) (ns ms : List Nat) (T : TypeId) (h : Blk w b ((ns ++ ms).map (fun n : Nat => Value.int .u8 n)) T) (n c : Nat) (hn : ns.length = n) :
    (convert 23 9 (.slice (some ⟨b, 0, none⟩) n c)).run Try.prog w = .ok (.string ⟨(ns.map UInt8.ofNat).toArray⟩) w := by
  subst hn
  rw [run_convert_bytes_string (P := Try.prog) _ 23 9 5 _ ns.length c Try.underlying23 Try.underlying5 Try.underlying9]
  have hl := run_loadCells_list (P := Try.prog) w ⟨b, 0, none⟩ ((ns.map (fun n : Nat => (n : Int))).map (Value.int .u8)) (fun j v hj => by
    rw [Addr.add_lit, Nat.zero_add]
    refine h.cell j ?_
    have hjl := (List.getElem?_eq_some_iff.1 hj).1
    rw [List.length_map, List.length_map] at hjl
    rw [List.map_append, List.getElem?_append_left (by simpa using hjl)]
    simpa using hj)
  rw [List.length_map, List.length_map] at hl
  rw [run_bytesToString _ _ ns.length c _ hl, push_fold]
  congr 2
  simp

set_option maxRecDepth 100000 in
set_option maxHeartbeats 400000 in
theorem encode_is (T Q X : Nat) (h1 : T < 8) (h2 : 0 < Q) (h3 : Q < 4294967296) (h4 : X ≤ 10000) (w : World) : Calls Try.prog 23 #[repV T Q ((X : Int) - 5000)] w fun e w' => e = .returned (.tuple #[.string (repB T Q X), .int .i64 0]) ∧ Below w.heap.size w w' := by
  have HE := repE_ok T Q X h1 h2 h4
  go_enter Try.func23, Try.ntmps23
  go_wp2_with fail
  refine (check_is T Q _ _).mono ?_
  rw [HE]
  rintro e w1 ⟨rfl, b1⟩
  clear HE
  have B1 : Blk w1 w.heap.size [.int .i64 T, .int .u32 Q, .int .i64 ((X : Int) - 5000)] TRep := (Blk.new w [.int .i64 T, .int .u32 Q, .int .i64 ((X : Int) - 5000)] TRep).below b1 (by simp)
  have c0 := B1.cell 0 rfl
  have c1 := B1.cell 1 rfl
  have c2 := B1.cell 2 rfl
  have b0 : Below w.heap.size w w1 := ((Below.refl _ _).alloc (Nat.le_refl _) _).trans (b1.mono (by simp))
  clear B1 b1
  obtain ⟨w2, hw2⟩ : ∃ w2, w2 = w1.alloc (.cells (((repN T Q X ++ [0]).map (fun n : Nat => Value.int .u8 n))).toArray 83) := ⟨_, rfl⟩
  have B2 : Blk w2 w1.heap.size ((repN T Q X ++ [0]).map (fun n : Nat => Value.int .u8 n)) 83 := by rw [hw2]; exact Blk.new w1 _ _
  have hcv : (convert 23 9 (.slice (some ⟨w1.heap.size, 0, none⟩) 7 8)).run Try.prog (w1.alloc (.cells #[.int .u8 T, .int .u8 ((Q : Int) / 16777216), .int .u8 ((Q : Int) / 65536 % 256), .int .u8 ((Q : Int) / 256 % 256), .int .u8 ((Q : Int) % 256), .int .u8 ((X : Int) / 256), .int .u8 ((X : Int) % 256), .int .u8 0] 83)) = .ok (.string (repS T Q X)) w2 := by
    have h := conv_nat w2 w1.heap.size (repN T Q X) [0] 83 B2 7 8 rfl
    rw [hw2] at h ⊢
    exact h
  have b2 : Below w1.heap.size w1 w2 := by rw [hw2]; exact (Below.refl _ _).alloc (Nat.le_refl _) _
  clear hw2
  have HB2 := Lib.hid B2
  clear B2
  go_wp2_with fail
  refine (sum_any (repS T Q X) _ (by show 7 ≤ maxLen; decide)).mono ?_
  rintro e w3 ⟨rfl, b3⟩
  have hcr := crcL_lt (repL T Q X)
  rw [show (repS T Q X).data.toList = repL T Q X from rfl]
  generalize hc : crcL (repL T Q X) = c at hcr
  have HC := Lib.hid hc
  have B3 := Lib.hid (HB2.out.below b3 HB2.out.lt)
  have c7 : w3.cell? ⟨w1.heap.size, 7, none⟩ = some (.int .u8 0) := B3.out.cell 7 rfl
  have f7 : w3.frozen? ⟨w1.heap.size, 7, none⟩ = false := B3.out.free 7
  have B4 : Blk (w3.setCell ⟨w1.heap.size, 7, none⟩ (.int .u8 c)) w1.heap.size ((repN T Q X ++ [c]).map (fun n : Nat => Value.int .u8 n)) 83 := B3.out.set 7 _
  have hcv2 := conv_nat _ w1.heap.size (repN T Q X ++ [c]) [] 83 (by rw [List.append_nil]; exact B4) 8 8 rfl
  have hrb : (⟨((repN T Q X ++ [c]).map UInt8.ofNat).toArray⟩ : ByteArray) = repB T Q X := by
    rw [repB, HC.out, List.map_append]
    rfl
  rw [hrb] at hcv2
  have b4 : Hid (Below w.heap.size w (w3.setCell ⟨w1.heap.size, 7, none⟩ (.int .u8 c))) := Lib.hid (((b0.trans (b2.mono b0.size)).trans (b3.mono (Nat.le_trans b0.size b2.size))).setCell b0.size _)
  clear B4 hrb hc b2 b3 b0 HB2
  go_wp2
  go_returns
  exact ⟨rfl, b4.out⟩

end Go.Proofs.Ytljdkaajlmcpkaa
