/-
  What Go's operations on bits say of lists of truth values. No function of the program.
-/
import Derived.Test.YtljdkaajlmcpkaaBitsP
import Derived.Laws.Bits64
namespace Go.Proofs.Ytljdkaajlmcpkaa
open Go.RowKit

theorem and_bit8 (c t : Nat) (hc : c < 256) (ht : t < 8) : bits BinOp.and IntKind.u8 ((c : Int) / 2 ^ t) 1 = (((c.testBit t).toNat : Nat) : Int) := by
  have h : ∀ t : Nat, t < 8 → ∀ c : Nat, c < 256 → bits BinOp.and IntKind.u8 ((c : Int) / 2 ^ t) 1 = (((c.testBit t).toNat : Nat) : Int) := by decide +kernel
  exact h t ht c hc
theorem testBit_div (n t : Nat) : (n / 2 ^ t % 256).testBit 0 = n.testBit t := by
  rw [Nat.testBit_zero, Nat.testBit_eq_decide_div_mod_eq, Nat.mod_mod_of_dvd _ (by decide)]
theorem and_u8_bit (n t : Nat) : bits BinOp.and IntKind.u8 (IntKind.u8.wrap ((n : Int) / 2 ^ t)) 1 = (((n.testBit t).toNat : Nat) : Int) := by
  have e : IntKind.u8.wrap ((n : Int) / 2 ^ t) = ((n / 2 ^ t % 256 : Nat) : Int) / 2 ^ 0 := by
    rw [IntKind.wrap_u8]
    simp
  rw [e, and_bit8 _ 0 (Nat.mod_lt _ (by decide)) (by decide), testBit_div]
theorem u64_or_nat (a b : Nat) (ha : a < 18446744073709551616) (hb : b < 18446744073709551616) : bits .or .u64 (a : Int) (b : Int) = ((a ||| b : Nat) : Int) := by
  have hx : a ||| b < 2 ^ 64 := Nat.or_lt_two_pow (by omega) (by omega)
  show IntKind.u64.wrap ((BitVec.ofInt 64 (a : Int) ||| BitVec.ofInt 64 (b : Int)).toNat : Int) = _
  have o (a : Nat) (ha : a < 18446744073709551616) : (BitVec.ofInt 64 (a : Int)).toNat = a := by
    rw [BitVec.ofInt_natCast, BitVec.toNat_ofNat]; exact Nat.mod_eq_of_lt (by omega)
  rw [BitVec.toNat_or, o a ha, o b hb, IntKind.wrap_u64]
  omega
theorem step_u64 (V : Nat) (b : Bool) (hV : V < 9223372036854775808) : bits BinOp.or IntKind.u64 (IntKind.u64.wrap ((V : Int) * 2)) (IntKind.u64.wrap ((b.toNat : Nat) : Int)) = ((2 * V + b.toNat : Nat) : Int) := by
  have hb := Bool.toNat_le b
  have e1 : IntKind.u64.wrap ((V : Int) * 2) = ((2 * V : Nat) : Int) := by rw [IntKind.wrap_u64]; omega
  have e2 : IntKind.u64.wrap ((b.toNat : Nat) : Int) = ((b.toNat : Nat) : Int) := by rw [IntKind.wrap_u64]; omega
  have e3 : 2 * V ||| b.toNat = 2 * V + b.toNat := (Nat.two_pow_add_eq_or_of_lt (i := 1) (by omega) V).symm
  rw [e1, e2, u64_or_nat _ _ (by omega) (by omega), e3]
theorem bit_take_snoc (s : List UInt8) (a j q p t : Nat) (hq : (a + j) / 8 = q) (hp : (a + j) % 8 = p) (ht : 7 - p = t) (hqs : q < s.length) :
    ((ubits s).drop a).take (j + 1) = ((ubits s).drop a).take j ++ [(s[q].toNat).testBit t] := by
  have hl : a + j < (ubits s).length := by rw [ubits_length]; omega
  have hg : (ubits s).getD (a + j) false = (s[q].toNat).testBit t := by
    have e : a + j = 8 * q + p := by omega
    rw [e, ubits_at s q p hqs (by omega), List.getD_eq_getElem?_getD, List.getElem?_eq_getElem hqs, ht]
    rfl
  rw [List.take_add_one, List.getElem?_drop, List.getElem?_eq_getElem hl]
  rw [List.getD_eq_getElem?_getD, List.getElem?_eq_getElem hl] at hg
  simp at hg
  rw [hg]
  rfl

end Go.Proofs.Ytljdkaajlmcpkaa
