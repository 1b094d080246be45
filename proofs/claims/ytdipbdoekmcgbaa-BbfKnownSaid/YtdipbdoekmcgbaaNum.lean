/-
  Numbers out of bytes; strings out of blocks; crc8.Sum and aerialref02.Sum by name. (Parts of XReport2, 3, 5, 7, 8, for a seat without the reports.)
-/
import Derived.Test.YtdipbdoekmcgbaaWrote
import Derived.Test.YtdipbdoekmcgbaaBytes
import Derived.Test.YtdipbdoekmcgbaaCrc
import Derived.Test.YtdipbdoekmcgbaaCrcRef
import Derived.Test.YtdipbdoekmcgbaaCrcPlain
namespace Go.Proofs.Ytdipbdoekmcgbaa
open Go.RowKit

def numL (l : List UInt8) : Nat := l.foldl (fun n c => n * 256 + c.toNat) 0
theorem numL_snoc (l : List UInt8) (c : UInt8) : numL (l ++ [c]) = numL l * 256 + c.toNat := by simp [numL]
theorem numL_lt : ∀ l : List UInt8, numL l < 256 ^ l.length := by
  intro l
  suffices h : ∀ (l : List UInt8) (n m : Nat), n < m → l.foldl (fun n c => n * 256 + c.toNat) n < m * 256 ^ l.length by
    have := h l 0 1 (by omega)
    rw [Nat.one_mul] at this
    exact this
  intro l
  induction l with
  | nil => intro n m h; simpa using h
  | cons c l ih =>
    intro n m h
    have := ih (n * 256 + c.toNat) (m * 256) (by have := c.toNat_lt; omega)
    rw [List.length_cons, Nat.pow_succ, Nat.mul_comm (256 ^ l.length), ← Nat.mul_assoc]
    exact this

theorem i64_or_nat (a b : Nat) (ha : a < 9223372036854775808) (hb : b < 9223372036854775808) : bits .or .i64 (a : Int) (b : Int) = ((a ||| b : Nat) : Int) := by
  have hx : a ||| b < 2 ^ 63 := Nat.or_lt_two_pow (by omega) (by omega)
  show IntKind.i64.wrap ((BitVec.ofInt 64 (a : Int) ||| BitVec.ofInt 64 (b : Int)).toNat : Int) = _
  have o (a : Nat) (ha : a < 9223372036854775808) : (BitVec.ofInt 64 (a : Int)).toNat = a := by
    rw [BitVec.ofInt_natCast, BitVec.toNat_ofNat]; exact Nat.mod_eq_of_lt (by omega)
  rw [BitVec.toNat_or, o a ha, o b hb, IntKind.wrap_i64]
  omega
theorem or_byte (n c : Nat) (hn : n < 16777216) (hc : c < 256) : bits BinOp.or IntKind.i64 ((n : Int) * 256) (c : Int) = ((n * 256 + c : Nat) : Int) := by
  have e3 : n * 256 ||| c = n * 256 + c := by
    rw [Nat.mul_comm]
    exact (Nat.two_pow_add_eq_or_of_lt (i := 8) (by omega) n).symm
  rw [← e3, ← i64_or_nat _ _ (by omega) (by omega), Int.natCast_mul]
  rfl

/-- The string of the first bytes of a block. -/
theorem conv_nat (w : World) (b : Nat) (ns ms : List Nat) (T : TypeId) (h : Blk w b ((ns ++ ms).map (fun n : Nat => Value.int .u8 n)) T) (n c : Nat) (hn : ns.length = n) :
    (convert 32 9 (.slice (some ⟨b, 0, none⟩) n c)).run Try.prog w = .ok (.string ⟨(ns.map UInt8.ofNat).toArray⟩) w := by
  subst hn
  rw [run_convert_bytes_string (P := Try.prog) _ 32 9 5 _ ns.length c Try.underlying32 Try.underlying5 Try.underlying9]
  have hl := run_loadCells_list (P := Try.prog) w ⟨b, 0, none⟩ ((ns.map (fun n : Nat => (n : Int))).map (Value.int .u8)) (fun j v hj => by
    rw [Addr.add_lit, Nat.zero_add]
    refine h.cell j ?_
    have hjl := (List.getElem?_eq_some_iff.1 hj).1
    rw [List.length_map, List.length_map] at hjl
    rw [List.map_append, List.getElem?_append_left (by simpa using hjl)]
    simpa using hj)
  rw [List.length_map, List.length_map] at hl
  rw [run_bytesToString _ _ ns.length c _ hl, push_fold]
  congr 2
  simp

theorem sumE (s : ByteArray) (c : Nat) (h : Hid (crcL s.data.toList = c)) (hs : s.size ≤ maxLen) (w : World) : Calls Try.prog 28 #[.string s] w fun e w' => e = .returned (.int .u8 c) ∧ Below w.heap.size w w' := by
  obtain rfl := h.out
  exact sum_any s w hs
theorem refE (s : ByteArray) (c : Nat) (h : Hid (crcL s.data.toList = c)) (hs : s.size ≤ maxLen) (w : World) : Calls Try.prog 31 #[.string s] w fun e w' => e = .returned (.int .u8 c) ∧ Below w.heap.size w w' := by
  obtain rfl := h.out
  exact (refsum s w hs).mono fun _ _ ⟨he, e2⟩ => ⟨he, by rw [e2]; exact Below.refl _ _⟩

/-- One byte, as a string, wherever it lies. -/
theorem conv_byte {w : World} {b n : Nat} {T : TypeId} (h : Blk w b [.int .u8 n] T) (c : Nat) : (convert 32 9 (.slice (some ⟨b, 0, none⟩) 1 c)).run Try.prog w = .ok (.string ⟨#[UInt8.ofNat n]⟩) w :=
  conv_nat w b [n] [] T h 1 c rfl
theorem ofNat_small {n : Nat} (h : n < 256) : (UInt8.ofNat n).toNat = n := by
  rw [UInt8.toNat_ofNat']
  exact Nat.mod_eq_of_lt h
theorem ofNat_id {b : UInt8} {n : Nat} (h : n = b.toNat) : UInt8.ofNat n = b := by
  subst h
  exact UInt8.ofNat_toNat
theorem makeFunc_run (fn : Fn) (first cap : Array Value) (w : World) : (Instr.makeFunc fn first cap).run Try.prog w = .ok (.func fn first cap) w := rfl

end Go.Proofs.Ytdipbdoekmcgbaa
