/-
  bits.of: the bits of a number, one behind the other, by contract.
-/
import Derived.Test.YtljdkaajlmcpkaaBitsQ
import Derived.Test.YtljdkaajlmcpkaaWrote
import Derived.Test.YtljdkaajlmcpkaaRound
namespace Go.Proofs.Ytljdkaajlmcpkaa
open Go.RowKit Go.Shelf
attribute [local go_sem] Oper.semAt_some

set_option maxRecDepth 100000 in
set_option maxHeartbeats 400000 in
theorem of_is (n : Int) (b : Int) (w : World) : Calls Try.prog 35 #[.int .u64 n, .int .i64 b] w fun e w' => e = .returned (.func (.func 46) #[] #[.pointer (some ⟨w.heap.size + 1, 0, none⟩), .pointer (some ⟨w.heap.size, 0, none⟩)]) ∧ w' = (w.alloc (.cells #[.int .u64 n] 29)).alloc (.cells #[.int .i64 b] 3) := by
  have hmf : ∀ (fn : Fn) (first cap : Array Value) (w : World), (Instr.makeFunc fn first cap).run Try.prog w = .ok (.func fn first cap) w := fun _ _ _ _ => rfl
  go_enter Try.func35, Try.ntmps35
  go_wp2_with fail
  go_returns
  exact ⟨rfl, rfl⟩

/-- What a round keeps: the two cells that the iterator reads. -/
def KeepsTwo (b1 b2 : Nat) (W W' : World) : Prop := W'.heap[b1]? = W.heap[b1]? ∧ W'.heap[b2]? = W.heap[b2]?
theorem keepsTwo_t {b1 b2 : Nat} {A B C : World} (h : KeepsTwo b1 b2 A B) (k : KeepsTwo b1 b2 B C) : KeepsTwo b1 b2 A C := ⟨k.1.trans h.1, k.2.trans h.2⟩

set_option maxRecDepth 100000 in
set_option maxHeartbeats 400000 in
theorem of_stops (m : Nat) (n k b1 b2 : Nat) (w : World) (h1 : Blk w b1 [.int .u64 (n : Int)] 29) (h2 : Blk w b2 [.int .i64 (k : Int)] 3) (hk : k ≤ 64) :
    SeqStopsK Fence.wide m Try.prog 46 #[.pointer (some ⟨b2, 0, none⟩), .pointer (some ⟨b1, 0, none⟩)] (fun x : Bool => #[.int .u8 ((x.toNat : Nat) : Int)]) (KeepsTwo b1 b2) (fun xs => xs = bitsL n k) (fun _ => True) 64 w := by
  intro l J Jx W hW hJ hJx hY h0
  have hB1 : W.heap[b1]? = w.heap[b1]? := hW.block b1 h1.lt
  have hB2 : W.heap[b2]? = w.heap[b2]? := hW.block b2 h2.lt
  refine callsIn_of_wp Try.func46 rfl trivial ?_ rfl
  simp only [Try.ntmps46, List.size_toArray, List.length_cons, List.length_nil, Nat.reduceAdd, Nat.reduceSub, Array.replicate_succ, Array.replicate_zero, List.push_toArray, List.append_toArray, List.nil_append, List.cons_append]
  have c2 : W.cell? ⟨b2, 0, none⟩ = some (.int .i64 (k : Int)) := (Blk.cell (hB2.trans h2) 0 rfl)
  gi_wp2
  gi_loopw [4] (fun p wr => ∃ j : Nat, j ≤ k ∧ p = .int .i64 ((k : Int) - 1 - j) ∧ Hid (J ((bitsL n k).take j) wr) ∧ Hid (wr.heap[b1]? = w.heap[b1]? ∧ wr.heap[b2]? = w.heap[b2]?)) (fun p _ => (intOf p + 1).toNat)
  case atStart => exact ⟨0, by omega, by simp, Lib.hid h0, Lib.hid ⟨hB1, hB2⟩⟩
  case round =>
    obtain ⟨j, hj, rfl, HJ, HB⟩ := hrel
    by_cases hlt : j < k
    · obtain ⟨t, ht⟩ : ∃ t : Nat, k - 1 - j = t := ⟨_, rfl⟩
      have ht2 : (k : Int) - 1 - j = t := by omega
      rw [ht2]
      have c1 : wr.cell? ⟨b1, 0, none⟩ = some (.int .u64 (n : Int)) := (Blk.cell (HB.out.1.trans h1) 0 rfl)
      have hV := and_u8_bit n t
      rw [IntKind.wrap_u8] at hV
      obtain ⟨fn, tmps, assign, body, hy, hR⟩ := hY ((bitsL n k).take j) (n.testBit t) wr HJ.out (by rw [List.length_take, bitsL_length]; omega)
      have hsn : (bitsL n k).take j ++ [n.testBit t] = (bitsL n k).take (j + 1) := by rw [bitsL_take_succ n k j hlt, ht]
      rw [hsn] at hR
      generalize n.testBit t = x at *
      gi_wp2
      refine ⟨fun h => (by cases h), hR.mono ?_⟩
      rintro e W' (⟨rfl, hJ', hk'⟩ | ⟨rfl, hJx'⟩)
      · gi_wp2
        exact ⟨⟨j + 1, by omega, by congr 1; omega, Lib.hid hJ', Lib.hid ⟨hk'.1.trans HB.out.1, hk'.2.trans HB.out.2⟩⟩, by simp [intOf]⟩
      · gi_wp2
        go_end0
        exact ⟨⟨_, rfl⟩, .inr ⟨_, trivial, hJx'⟩⟩
    · obtain rfl : j = k := by omega
      have hm1 : (j : Int) - 1 - j = -1 := by omega
      rw [hm1]
      gi_wp2
      refine ⟨fun _ h => (by cases h), ?_⟩
      gi_wp2
      go_end0
      have hj : (bitsL n j).take j = bitsL n j := List.take_of_length_le (by rw [bitsL_length]; omega)
      exact ⟨⟨_, rfl⟩, .inl ⟨_, rfl, by have := HJ.out; rwa [hj] at this⟩⟩

end Go.Proofs.Ytljdkaajlmcpkaa
