/-
  aerialref01: bits as lists of truth values, by contract.
-/
import Derived.Test.YtljdkaajlmcpkaaBits5
namespace Go.Proofs.Ytljdkaajlmcpkaa
open Go.RowKit

theorem wpList_append_known {ops : Array Oper} {rest : List Oper} {o : Oper} {a : Act} {w : World} {Q : Exit → Act → World → Prop} (hgd : o.guard = none) (s x : Operand) (t : TypeId)
    (ho : o.op = .call { callee := .builtin .append, args := #[s, x], argTypes := #[t, t] }) (vs vx v' : Value) (w' : World) (hs : a.eval s = vs) (hx : a.eval x = vx)
    (hr : (Builtin.append_ #[t, t] o.type #[vs, vx]).run Try.prog w = .ok v' w') (h : wpList Try.prog ops Q rest (a.put o.dst v') w') : wpList Try.prog ops Q (o :: rest) a w :=
  wpList_plain hgd fun _ hK => by
    unfold Oper.wp execOp
    simp only [ho, resolve, invoke, builtin, Sem.run_bind, Sem.run_pure, Result.andThen_ok, List.map_toArray, List.map_cons, List.map_nil, hs, hx, hr]
    exact hK _ _ h
def boolV (l : List Bool) : List Value := l.map Value.bool
theorem boolV_snoc (l : List Bool) (b : Bool) : boolV l ++ [.bool b] = boolV (l ++ [b]) := by simp [boolV]
theorem boolV_append (l m : List Bool) : boolV l ++ boolV m = boolV (l ++ m) := by simp [boolV]
theorem boolV_length (l : List Bool) : (boolV l).length = l.length := by simp [boolV]
theorem boolV_one (l : List Bool) : ∀ u ∈ boolV l, u.oneCell' = true := fun u hu => by
  obtain ⟨b, _, rfl⟩ := List.mem_map.1 hu
  rfl
/-- One truth value more. -/
theorem push_bool {w : World} {B : Nat} {v : Value} {l : List Bool} (h : Row 4 w B v (boolV l)) (hB : B ≤ w.heap.size) (hl : l.length ≤ 100000) (b : Bool) :
    ∃ g cap w', (Builtin.append_ #[42, 42] 42 #[v, .slice (some ⟨w.heap.size, 0, none⟩) 1 1]).run Try.prog (w.alloc (.cells #[.bool b] 4)) = .ok (.slice (some ⟨g, 0, none⟩) (l.length + 1) cap) w' ∧ Row 4 w' B (.slice (some ⟨g, 0, none⟩) (l.length + 1) cap) (boolV (l ++ [b])) ∧ w.grownBy w' v.ownBlock ∧ (v.ownBlock = some g ∨ w.heap.size ≤ g) ∧ g < w'.heap.size := by
  obtain ⟨g, cap, w', hr, r1, r2, r3, r4⟩ := Row.push (P := Try.prog) 42 (.bool false) 1 Try.underlying42 bool_info rfl (by decide) (h.alloc (.cells #[.bool b] 4)) (by simp; omega) ⟨w.heap.size, 0, none⟩ 1 1 [.bool b] rfl (by decide) (World.news_of_block (heap_alloc_new w _)) (by intro u hu; simp at hu; subst hu; rfl) (by rw [boolV_length]; omega) 42
  rw [boolV_length] at hr r1
  rw [boolV_snoc] at r1
  refine ⟨g, cap, w', hr, r1, ⟨r2.os, r2.tape, r2.output, Nat.le_trans (by simp) r2.size, fun k hk hne => (r2.block k (by simp; omega) hne).trans (heap_alloc_old w _ hk)⟩, ?_, r4⟩
  rcases r3 with h | h
  · exact .inl h
  · right; rw [h]; simp

theorem u64_and_nat (a b : Nat) (ha : a < 18446744073709551616) (hb : b < 18446744073709551616) : bits .and .u64 (a : Int) (b : Int) = ((a &&& b : Nat) : Int) := by
  have hx : a &&& b < 2 ^ 64 := Nat.and_lt_two_pow _ (by omega)
  show IntKind.u64.wrap ((BitVec.ofInt 64 (a : Int) &&& BitVec.ofInt 64 (b : Int)).toNat : Int) = _
  have o (a : Nat) (ha : a < 18446744073709551616) : (BitVec.ofInt 64 (a : Int)).toNat = a := by
    rw [BitVec.ofInt_natCast, BitVec.toNat_ofNat]; exact Nat.mod_eq_of_lt (by omega)
  rw [BitVec.toNat_and, o a ha, o b hb, IntKind.wrap_u64]
  omega
theorem and_u64_bit (n t : Nat) (hn : n < 18446744073709551616) : bits BinOp.and IntKind.u64 ((n : Int) / 2 ^ t) 1 = (((n.testBit t).toNat : Nat) : Int) := by
  have e : (n : Int) / 2 ^ t = ((n / 2 ^ t : Nat) : Int) := by simp
  have h1 := u64_and_nat (n / 2 ^ t) 1 (Nat.lt_of_le_of_lt (Nat.div_le_self _ _) hn) (by decide)
  rw [e]
  rw [show ((1 : Nat) : Int) = 1 from rfl] at h1
  rw [h1, Nat.and_one_is_mod, Nat.testBit_eq_decide_div_mod_eq]
  rcases Nat.mod_two_eq_zero_or_one (n / 2 ^ t) with h | h <;> rw [h] <;> rfl
set_option maxRecDepth 100000 in
set_option maxHeartbeats 400000 in
theorem bitsOf_is (n b : Nat) (hb : b ≤ 64) (hn : n < 18446744073709551616) (w : World) : Calls Try.prog 36 #[.int .u64 n, .int .i64 b] w fun e w' => ∃ v, e = .returned v ∧ Row 4 w' w.heap.size v (boolV (bitsL n b)) ∧ Below w.heap.size w w' := by
  go_enter Try.func36, Try.ntmps36
  go_wp2_with fail
  go_loopw [5, 6] (fun v i wr => ∃ j : Nat, j ≤ b ∧ i = .int .i64 ((b : Int) - 1 - j) ∧ Hid (Row 4 wr w.heap.size v (boolV ((bitsL n b).take j))) ∧ Hid (Below w.heap.size w wr)) (fun _ i _ => (intOf i + 1).toNat)
  case atStart => exact ⟨0, by omega, by simp, Lib.hid (Row.nil _ _ _), Lib.hid (Below.refl _ _)⟩
  case round =>
    rename_i pv wr
    obtain ⟨j, hj, rfl, HR, HB⟩ := hrel
    by_cases hlt : j < b
    · obtain ⟨t, ht⟩ : ∃ t : Nat, b - 1 - j = t := ⟨_, rfl⟩
      have ht2 : (b : Int) - 1 - j = t := by omega
      rw [ht2]
      have hV := and_u64_bit n t hn
      have hll : ((bitsL n b).take j).length ≤ 100000 := by rw [List.length_take]; omega
      have hsn : (bitsL n b).take j ++ [n.testBit t] = (bitsL n b).take (j + 1) := by rw [bitsL_take_succ n b j hlt, ht]
      have HP := Lib.hid (push_bool HR.out HB.out.size hll (n.testBit t))
      have hlj : ((bitsL n b).take j).length = j := by rw [List.length_take, bitsL_length]; omega
      rw [hsn, hlj] at HP
      obtain ⟨x, hx⟩ : ∃ x, n.testBit t = x := ⟨_, rfl⟩
      rw [hx] at hV HP
      have hx2 : ((((x.toNat : Nat) : Int) == 1) = x) := by cases x <;> rfl
      clear hsn hx hlj hll
      go_wp2_with (at_builtin; obtain ⟨g, cap, w', hr, r1, r2, r3, r4⟩ := HP.out; have R1 := Lib.hid r1; have R2 := Lib.hid r2; clear r1 r2 r3 r4; refine wpList_append_known rfl (.tmp 13) (.tmp 19) 42 rfl _ _ _ _ rfl rfl hr ?_)
      exact ⟨⟨j + 1, by omega, by congr 1; omega, R1, Lib.hid (HB.out.grown R2.out HB.out.size (fun k e => (HR.out.lt k e).1))⟩, by simp [intOf]⟩
    · obtain rfl : j = b := by omega
      have hm1 : (j : Int) - 1 - j = -1 := by omega
      rw [hm1]
      go_wp2_with fail
      go_returns
      have hj : (bitsL n j).take j = bitsL n j := List.take_of_length_le (by rw [bitsL_length]; omega)
      rw [hj] at HR
      exact ⟨_, rfl, HR.out, HB.out⟩

end Go.Proofs.Ytljdkaajlmcpkaa
