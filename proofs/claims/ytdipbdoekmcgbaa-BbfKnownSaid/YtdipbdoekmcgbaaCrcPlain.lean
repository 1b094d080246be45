/-
  The sum crc8: it is linear; zeros ahead; bytes with their sum behind them; bursts of at most eight bits. Plain lists and numbers.
-/
import Derived.Test.YtdipbdoekmcgbaaCrcPure
namespace Go.Proofs.Ytdipbdoekmcgbaa

theorem cstep_as (n : Nat) (h : n < 256) : cstep n = (2 * n % 256) ^^^ (if n.testBit 7 then 213 else 0) := by
  have h1 : ∀ n : Nat, n < 256 → cstep n = (2 * n % 256) ^^^ (if n.testBit 7 then 213 else 0) := by decide +kernel
  exact h1 n h
theorem two_xor (a b : Nat) : 2 * (a ^^^ b) % 256 = (2 * a % 256) ^^^ (2 * b % 256) := by
  have h : 2 * (a ^^^ b) = (2 * a) ^^^ (2 * b) := by
    have := Nat.shiftLeft_xor_distrib (a := a) (b := b) (i := 1)
    simpa [Nat.shiftLeft_eq, Nat.mul_comm] using this
  rw [h]
  exact Nat.xor_mod_two_pow (n := 8)
theorem xlc (a b c : Nat) : a ^^^ (b ^^^ c) = b ^^^ (a ^^^ c) := by rw [← Nat.xor_assoc, Nat.xor_comm a b, Nat.xor_assoc]
theorem xcl (a b : Nat) : a ^^^ (a ^^^ b) = b := by rw [← Nat.xor_assoc, Nat.xor_self, Nat.zero_xor]
theorem cstep_xor {a b : Nat} (ha : a < 256) (hb : b < 256) : cstep (a ^^^ b) = cstep a ^^^ cstep b := by
  rw [cstep_as _ (Nat.xor_lt_two_pow (n := 8) ha hb), cstep_as a ha, cstep_as b hb, two_xor, Nat.testBit_xor]
  generalize 2 * a % 256 = x
  generalize 2 * b % 256 = y
  cases a.testBit 7 <;> cases b.testBit 7 <;> simp
  · rw [Nat.xor_assoc]
  · rw [Nat.xor_assoc, Nat.xor_assoc, Nat.xor_comm y]
  · rw [Nat.xor_assoc, xlc 213 y, Nat.xor_self, Nat.xor_zero]
theorem citer_xor (k : Nat) {a b : Nat} (ha : a < 256) (hb : b < 256) : citer k (a ^^^ b) = citer k a ^^^ citer k b := by
  induction k with
  | zero => rfl
  | succ k ih => rw [citer, ih, cstep_xor (citer_lt k ha) (citer_lt k hb)]; rfl
theorem citer_zero (k : Nat) : citer k 0 = 0 := by
  induction k with
  | zero => rfl
  | succ k ih => rw [citer, ih]; rfl
theorem citer_add (j k n : Nat) : citer (j + k) n = citer j (citer k n) := by
  induction j with
  | zero => simp [citer]
  | succ j ih => rw [Nat.add_right_comm, citer, ih]; rfl
theorem cstep_ne {n : Nat} (h : n < 256) (h0 : n ≠ 0) : cstep n ≠ 0 := by
  have h1 : ∀ n : Nat, n < 256 → n ≠ 0 → cstep n ≠ 0 := by decide +kernel
  exact h1 n h h0
theorem citer_ne (k : Nat) {n : Nat} (h : n < 256) (h0 : n ≠ 0) : citer k n ≠ 0 := by
  induction k with
  | zero => exact h0
  | succ k ih => exact cstep_ne (citer_lt k h) ih

/-- From any state on. -/
def crcF (n : Nat) (l : List UInt8) : Nat := l.foldl (fun (n : Nat) (c : UInt8) => citer 8 (n ^^^ c.toNat)) n
theorem crcL_eq (l : List UInt8) : crcL l = crcF 0 l := rfl
theorem crcF_cons (n : Nat) (c : UInt8) (l : List UInt8) : crcF n (c :: l) = crcF (citer 8 (n ^^^ c.toNat)) l := by simp only [crcF, List.foldl_cons]
theorem crcF_append (n : Nat) (a b : List UInt8) : crcF n (a ++ b) = crcF (crcF n a) b := by simp [crcF]
theorem crcF_zeros (k : Nat) (n : Nat) : crcF n (List.replicate k 0) = citer (8 * k) n := by
  induction k generalizing n with
  | zero => rfl
  | succ k ih =>
    rw [List.replicate_succ, crcF_cons, ih, UInt8.toNat_zero, Nat.xor_zero, ← citer_add, Nat.mul_succ]
theorem crcL_append (a b : List UInt8) : crcL (a ++ b) = crcF (crcL a) b := crcF_append 0 a b
theorem crcL_closed (l : List UInt8) : crcL (l ++ [UInt8.ofNat (crcL l)]) = 0 := by
  rw [crcL_snoc]
  have h : (UInt8.ofNat (crcL l)).toNat = crcL l := by simpa using crcL_lt l
  rw [h, Nat.xor_self]
  exact citer_zero 8
theorem crcL_zeros (k : Nat) : crcL (List.replicate k 0) = 0 := by rw [crcL_eq, crcF_zeros]; exact citer_zero _
theorem crcF_zero (l : List UInt8) : crcF 0 l = crcL l := rfl
def xorL (a b : List UInt8) : List UInt8 := List.zipWith (· ^^^ ·) a b
theorem crcF_xor : ∀ (a b : List UInt8) (n m : Nat), n < 256 → m < 256 → a.length = b.length → crcF (n ^^^ m) (xorL a b) = crcF n a ^^^ crcF m b
  | [], [], _, _, _, _, _ => rfl
  | x :: a, y :: b, n, m, hn, hm, h => by
    have e1 : xorL (x :: a) (y :: b) = (x ^^^ y) :: xorL a b := by simp only [xorL, List.zipWith_cons_cons]
    rw [e1, crcF_cons, crcF_cons, crcF_cons]
    have hx := Nat.xor_lt_two_pow (n := 8) hn x.toNat_lt
    have hy := Nat.xor_lt_two_pow (n := 8) hm y.toNat_lt
    rw [← crcF_xor a b _ _ (citer_lt 8 hx) (citer_lt 8 hy) (by simpa using h), ← citer_xor 8 hx hy]
    have e : n ^^^ m ^^^ (x ^^^ y).toNat = n ^^^ x.toNat ^^^ (m ^^^ y.toNat) := by
      rw [UInt8.toNat_xor, Nat.xor_assoc, Nat.xor_assoc, xlc m]
    rw [e]
theorem crcL_xor (a b : List UInt8) (h : a.length = b.length) : crcL (xorL a b) = crcL a ^^^ crcL b := by
  have := crcF_xor a b 0 0 (by decide) (by decide) h
  simpa [crcF_zero] using this
theorem crcF_diff (l : List UInt8) : ∀ n d : Nat, n < 256 → d < 256 → crcF (n ^^^ d) l = crcF n l ^^^ citer (8 * l.length) d := by
  induction l with
  | nil => intro n d _ _; rfl
  | cons x l ih =>
    intro n d hn hd
    have hx := Nat.xor_lt_two_pow (n := 8) hn x.toNat_lt
    have e : n ^^^ d ^^^ x.toNat = (n ^^^ x.toNat) ^^^ d := by rw [Nat.xor_assoc n d, Nat.xor_comm d x.toNat, Nat.xor_assoc n]
    have e2 : citer (8 * (x :: l).length) d = citer (8 * l.length) (citer 8 d) := by rw [List.length_cons, Nat.mul_succ]; exact citer_add _ _ _
    have h3 := ih (citer 8 (n ^^^ x.toNat)) (citer 8 d) (citer_lt 8 hx) (citer_lt 8 hd)
    rw [crcF_cons, crcF_cons, e, e2, citer_xor 8 hx hd]
    exact h3
theorem crcL_set (l : List UInt8) (p : Nat) (h : p < l.length) (m : UInt8) : crcL (l.set p (l[p] ^^^ m)) = crcL l ^^^ citer (8 * (l.length - p)) m.toNat := by
  have e1 : l.set p (l[p] ^^^ m) = l.take p ++ (l[p] ^^^ m) :: l.drop (p + 1) := by rw [List.set_eq_take_append_cons_drop, if_pos h]
  have e2 : l = l.take p ++ l[p] :: l.drop (p + 1) := by rw [List.getElem_cons_drop, List.take_append_drop]
  have hx := Nat.xor_lt_two_pow (n := 8) (crcL_lt (l.take p)) l[p].toNat_lt
  have h3 := crcF_diff (l.drop (p + 1)) (citer 8 (crcL (l.take p) ^^^ l[p].toNat)) (citer 8 m.toNat) (citer_lt 8 hx) (citer_lt 8 m.toNat_lt)
  have e4 : citer (8 * (l.length - p)) m.toNat = citer (8 * (l.drop (p + 1)).length) (citer 8 m.toNat) := by
    rw [show 8 * (l.length - p) = 8 * (l.drop (p + 1)).length + 8 by rw [List.length_drop]; omega]
    exact citer_add _ _ _
  have e5 : crcL l = crcF (citer 8 (crcL (l.take p) ^^^ l[p].toNat)) (l.drop (p + 1)) := by
    conv => lhs; rw [e2]
    rw [crcL_append, crcF_cons]
  rw [e1, e4, e5, crcL_append, crcF_cons, UInt8.toNat_xor, ← Nat.xor_assoc, citer_xor 8 hx m.toNat_lt]
  exact h3
theorem citer_shift (r : Nat) (hr : r < 8) : citer r (128 >>> r) = 128 := by
  have h : ∀ r : Nat, r < 8 → citer r (128 >>> r) = 128 := by decide +kernel
  exact h r hr
theorem citer_bit (n q : Nat) (h : q < 8 * n) : citer (8 * (n - q / 8)) (128 >>> (q % 8)) = citer (8 * n - q) 128 := by
  have e : 8 * (n - q / 8) = (8 * n - q) + q % 8 := by omega
  rw [e, citer_add, citer_shift _ (Nat.mod_lt _ (by decide))]
/-- What the first i bits of a burst do to the sum, K bits ahead of the end. -/
def burst (bits K : Nat) : Nat → Nat
  | 0 => 0
  | i + 1 => burst bits K i ^^^ (if bits.testBit i then citer (K - i) 128 else 0)
def anyBit (bits : Nat) : Nat → Bool
  | 0 => false
  | i + 1 => anyBit bits i || bits.testBit i
theorem burst_lt (bits K : Nat) (i : Nat) : burst bits K i < 256 := by
  induction i with
  | zero => show 0 < 256; decide
  | succ i ih => rw [burst]; exact Nat.xor_lt_two_pow (n := 8) ih (by split; exact citer_lt _ (by decide); decide)
theorem burst_shift (bits t d : Nat) : ∀ i, i ≤ t + 1 → burst bits (t + d) i = citer d (burst bits t i) := by
  intro i
  induction i with
  | zero => intro _; exact (citer_zero d).symm
  | succ i ih =>
    intro h
    rw [burst, burst, ih (by omega), citer_xor d (burst_lt _ _ _) (by split; exact citer_lt _ (by decide); decide)]
    congr 1
    split
    · rw [← citer_add]; congr 1; omega
    · exact (citer_zero d).symm
theorem burst_small : ∀ t : Nat, t < 8 → ∀ b : Nat, b < 256 → ((burst b t (t + 1) == 0) = !anyBit b (t + 1)) := by decide +kernel
theorem burst_zero (b K : Nat) (hb : b < 256) (hK : 0 < K) : (burst b K (min 8 K) == 0) = !anyBit b (min 8 K) := by
  obtain ⟨t, ht⟩ : ∃ t, min 8 K = t + 1 := ⟨min 8 K - 1, by omega⟩
  have hs := burst_small t (by omega) b hb
  have e := burst_shift b t (K - t) (t + 1) (by omega)
  rw [show t + (K - t) = K by omega] at e
  rw [ht, e, ← hs]
  by_cases h0 : burst b t (t + 1) = 0
  · rw [h0, citer_zero]
  · have h1 := citer_ne (K - t) (burst_lt b t (t + 1)) h0
    rw [beq_eq_false_iff_ne.2 h0, beq_eq_false_iff_ne.2 h1]
theorem bit_fact (bt k : Nat) (hb : bt < 256) (hk : k < 8) : (bits BinOp.and IntKind.u8 ((bt : Int) / 2 ^ k) 1 == 1) = bt.testBit k := by
  have h : ∀ k : Nat, k < 8 → ∀ bt : Nat, bt < 256 → (bits BinOp.and IntKind.u8 ((bt : Int) / 2 ^ k) 1 == 1) = bt.testBit k := by decide +kernel
  exact h k hk bt hb
/-- The bit q of a text, as a byte. -/
def bitByte (q : Nat) : UInt8 := UInt8.ofNat (128 >>> (q % 8))
theorem bitByte_toNat (q : Nat) : (bitByte q).toNat = 128 >>> (q % 8) := by
  have h : 128 >>> (q % 8) ≤ 128 := Nat.shiftRight_le _ _
  unfold bitByte
  rw [UInt8.toNat_ofNat']
  exact Nat.mod_eq_of_lt (by omega)
theorem xor_bit (x : UInt8) (q : Nat) : bits BinOp.xor IntKind.u8 (x.toNat : Int) (128 / 2 ^ (q % 8)) = ((x ^^^ bitByte q).toNat : Int) := by
  have e : (128 : Int) / 2 ^ (q % 8) = (((bitByte q).toNat : Nat) : Int) := by
    rw [bitByte_toNat, Nat.shiftRight_eq_div_pow]
    simp
  rw [e, xor_u8 _ _ x.toNat_lt (bitByte q).toNat_lt, UInt8.toNat_xor]
theorem crcL_turn (L : List UInt8) (bt f k n : Nat) (hL : L.length = n) (hq : f + k < 8 * n) (hc : crcL L = burst bt (8 * n - f) k) (hp : (f + k) / 8 < L.length) (ht : bt.testBit k = true) :
    crcL (L.set ((f + k) / 8) (L[(f + k) / 8] ^^^ bitByte (f + k))) = burst bt (8 * n - f) (k + 1) := by
  rw [crcL_set L _ hp, bitByte_toNat, hL, citer_bit n (f + k) hq, hc, burst, if_pos ht, Nat.sub_sub]
theorem burst_same (bt K k : Nat) (ht : bt.testBit k = false) : burst bt K (k + 1) = burst bt K k := by
  rw [burst, ht, if_neg (by decide), Nat.xor_zero]
theorem anyBit_hit (bt k : Nat) (ht : bt.testBit k = true) : anyBit bt (k + 1) = true := by rw [anyBit, ht, Bool.or_true]
theorem anyBit_miss (bt k : Nat) (ht : bt.testBit k = false) : anyBit bt (k + 1) = anyBit bt k := by rw [anyBit, ht, Bool.or_false]
theorem beq_zero_cast (n : Nat) (b : Bool) (h : (n == 0) = b) : ((((n : Nat) : Int) == 0) == b) = true := by
  subst h
  cases n with
  | zero => rfl
  | succ n =>
    have h1 : (((n + 1 : Nat) : Int) == 0) = false := by rw [beq_eq_false_iff_ne]; omega
    rw [h1]; rfl
theorem xorU (x m : UInt8) : bits BinOp.xor IntKind.u8 (x.toNat : Int) (m.toNat : Int) = ((x ^^^ m).toNat : Int) := by
  rw [xor_u8 _ _ x.toNat_lt m.toNat_lt, UInt8.toNat_xor]
theorem xor_both (X Y : List UInt8) (k n : Nat) (hX : X.length = n) (hY : Y.length = n) (hkX : k < X.length) (hkY : k < Y.length) (m : UInt8) :
    crcL (X.set k (X[k] ^^^ m)) ^^^ crcL (Y.set k (Y[k] ^^^ m)) = crcL X ^^^ crcL Y := by
  rw [crcL_set X k hkX, crcL_set Y k hkY, hX, hY, Nat.xor_assoc, xlc (citer _ _), Nat.xor_self, Nat.xor_zero]
end Go.Proofs.Ytdipbdoekmcgbaa
