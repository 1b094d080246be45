/-
  The sum crc8 as plain functions on numbers and lists of bytes: no program here but the model's words for xor.
-/
import Derived.Test.YtdipbdoekmcgbaaBase
namespace Go.Proofs.Ytdipbdoekmcgbaa
open Go.RowKit

def cstep (n : Nat) : Nat := if 128 ≤ n then (2 * n % 256) ^^^ 213 else 2 * n % 256
def citer : Nat → Nat → Nat
  | 0, n => n
  | k + 1, n => cstep (citer k n)
def crcL (l : List UInt8) : Nat := l.foldl (fun n c => citer 8 (n ^^^ c.toNat)) 0

theorem cstep_facts : ∀ n < 256, cstep n < 256 ∧ (bits BinOp.and IntKind.u8 (n : Int) 128 != 0) = decide (128 ≤ n) ∧ bits BinOp.xor IntKind.u8 ((n : Int) * 2 % 256) 213 = (((2 * n % 256) ^^^ 213 : Nat) : Int) := by decide +kernel

theorem cstep_lt {n : Nat} (h : n < 256) : cstep n < 256 := (cstep_facts n h).1
theorem citer_lt (k : Nat) {n : Nat} (h : n < 256) : citer k n < 256 := by
  induction k with
  | zero => exact h
  | succ k ih => exact cstep_lt ih
theorem crcL_snoc (l : List UInt8) (c : UInt8) : crcL (l ++ [c]) = citer 8 (crcL l ^^^ c.toNat) := by simp [crcL]
theorem crc_fold_lt (l : List UInt8) : ∀ n : Nat, n < 256 → l.foldl (fun (n : Nat) (c : UInt8) => citer 8 (n ^^^ c.toNat)) n < 256 := by
  induction l with
  | nil => intro n h; exact h
  | cons c l ih =>
    intro n h
    rw [List.foldl_cons]
    exact ih _ (citer_lt 8 (Nat.xor_lt_two_pow (n := 8) h c.toNat_lt))
theorem crcL_lt (l : List UInt8) : crcL l < 256 := crc_fold_lt l 0 (by decide)
theorem take_snoc (s : ByteArray) (k : Nat) (h : k < s.size) : s.data.toList.take (k + 1) = s.data.toList.take k ++ [s[k]] := by
  rw [List.take_succ_eq_append_getElem (by simpa using h)]; rfl
theorem ofInt_u8 (a : Nat) (ha : a < 256) : (BitVec.ofInt 8 (a : Int)).toNat = a := by
  rw [BitVec.ofInt_natCast, BitVec.toNat_ofNat]; exact Nat.mod_eq_of_lt (by omega)
theorem xor_u8 (a c : Nat) (h : a < 256) (hc : c < 256) : bits BinOp.xor IntKind.u8 (a : Int) (c : Int) = ((a ^^^ c : Nat) : Int) := by
  have hx : a ^^^ c < 2 ^ 8 := Nat.xor_lt_two_pow h hc
  show IntKind.u8.wrap ((BitVec.ofInt 8 (a : Int) ^^^ BitVec.ofInt 8 (c : Int)).toNat : Int) = _
  rw [BitVec.toNat_xor, ofInt_u8 a h, ofInt_u8 c hc, IntKind.wrap_u8]
  omega

end Go.Proofs.Ytdipbdoekmcgbaa
