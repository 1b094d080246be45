/-
  bits.Writer: Put of anything, Bytes, Text, by contract.
-/
import Derived.Test.YtljdkaajlmcpkaaBits4
import Derived.Laws.BytesArg
namespace Go.Proofs.Ytljdkaajlmcpkaa
open Go.RowKit

/-- What stands behind a call of a writer's. -/
def WrTo (w : World) (r : Nat) (v : Value) (l' : List Bool) (w' : World) : Prop :=
  ∃ v', Wr w' r v' l' ∧ Wrote (fun k => k = r ∨ v.ownBlock = some k) w w' ∧ (∀ k, v'.ownBlock = some k → v.ownBlock = some k ∨ w.heap.size ≤ k)
theorem Wr.below {w w' : World} {r : Nat} {v : Value} {l : List Bool} (h : Wr w r v l) (k : Below w.heap.size w w') : Wr w' r v l :=
  ⟨h.S.below k h.S.lt, h.b.wrote (Wrote.ofBelow k (fun _ => False)) (fun _ _ e => e), h.ne⟩
theorem WrTo.of {w w' : World} {r : Nat} {v : Value} {l : List Bool} (h : Wr w r v l) (k : Below w.heap.size w w') : WrTo w r v l w' :=
  ⟨v, h.below k, Wrote.ofBelow k _, fun _ e => .inl e⟩
theorem WrTo.join {w w' w'' : World} {r : Nat} {v v1 : Value} {l' : List Bool} (h2 : Wrote (fun k => k = r ∨ v.ownBlock = some k) w w') (h3 : ∀ k, v1.ownBlock = some k → v.ownBlock = some k ∨ w.heap.size ≤ k) (k : WrTo w' r v1 l' w'') : WrTo w r v l' w'' := by
  obtain ⟨v2, k1, k2, k3⟩ := k
  refine ⟨v2, k1, ⟨k2.os.trans h2.os, k2.tape.trans h2.tape, k2.output.trans h2.output, Nat.le_trans h2.size k2.size, fun i hi hp => ?_⟩, fun i hi => ?_⟩
  · exact (k2.block i (Nat.lt_of_lt_of_le hi h2.size) (fun e => by
      rcases e with e | e
      · exact hp (.inl e)
      · rcases h3 i e with h | h
        · exact hp (.inr h)
        · omega)).trans (h2.block i hi hp)
  · rcases k3 i hi with h | h
    · exact h3 i h
    · exact .inr (Nat.le_trans h2.size h)

set_option maxRecDepth 100000 in
set_option maxHeartbeats 400000 in
theorem put_arg (r : Nat) (n : Int) (b : Int) (hb : b < 1 ∨ 64 < b) (w : World) : Calls Try.prog 13 #[.pointer (some ⟨r, 0, none⟩), .int .u64 n, .int .i64 b] w fun e w' => e = .returned (.int .i64 2) ∧ Below w.heap.size w w' := by
  have hq := (Below.refl w.heap.size w).alloc (Nat.le_refl _) (.cells #[.pointer (some ⟨r, 0, none⟩)] 73)
  rcases hb with hb | hb
  · go_enter Try.func13, Try.ntmps13
    go_wp2_with fail
    go_returns
    exact ⟨rfl, hq⟩
  · have hb2 : ¬ b < 1 := by omega
    go_enter Try.func13, Try.ntmps13
    go_wp2_with fail
    go_returns
    exact ⟨rfl, hq⟩
set_option maxRecDepth 100000 in
set_option maxHeartbeats 400000 in
theorem put_over (r n b : Nat) (h1 : 1 ≤ b) (h2 : b < 64) (hn : 2 ^ b ≤ n) (w : World) : Calls Try.prog 13 #[.pointer (some ⟨r, 0, none⟩), .int .u64 n, .int .i64 b] w fun e w' => e = .returned (.int .i64 14) ∧ Below w.heap.size w w' := by
  have hq := (Below.refl w.heap.size w).alloc (Nat.le_refl _) (.cells #[.pointer (some ⟨r, 0, none⟩)] 73)
  have hb1 : (1 : Int) ≤ b := by omega
  have hb2 : (b : Int) < 64 := by omega
  have hb3 : (b : Int) ≤ 64 := by omega
  have hd : 0 < n / 2 ^ b := Nat.div_pos hn (Nat.two_pow_pos b)
  obtain ⟨z, hz⟩ : ∃ z : Nat, n / 2 ^ b = z + 1 := ⟨n / 2 ^ b - 1, by omega⟩
  have hz2 : (n : Int) / 2 ^ b = (z : Int) + 1 := by
    have e : ((n / 2 ^ b : Nat) : Int) = (z : Int) + 1 := by rw [hz]; rfl
    rw [← e]
    simp
  have hz3 : (0 : Int) < (z : Int) + 1 := by omega
  clear hd hz hn
  go_enter Try.func13, Try.ntmps13
  go_wp2_with fail
  go_returns
  exact ⟨rfl, hq⟩
/-- What Put answers, and what lies there then. -/
def putE (n b : Int) : Int := if b < 1 ∨ 64 < b then 2 else if b < 64 ∧ 2 ^ b.toNat ≤ n.toNat then 14 else 0
def putL (l : List Bool) (n b : Int) : List Bool := if putE n b = 0 then l ++ bitsL n.toNat b.toNat else l
theorem put_any (r : Nat) (v : Value) (l : List Bool) (n b : Int) (hn : 0 ≤ n ∧ n < 18446744073709551616) (w : World) (h : Wr w r v l) (hlen : l.length ≤ 100000) :
    Calls Try.prog 13 #[.pointer (some ⟨r, 0, none⟩), .int .u64 n, .int .i64 b] w fun e w' => e = .returned (.int .i64 (putE n b)) ∧ WrTo w r v (putL l n b) w' := by
  by_cases hb : b < 1 ∨ 64 < b
  · have e : putE n b = 2 := by unfold putE; rw [if_pos hb]
    rw [putL, e]
    refine (put_arg r n b hb w).mono ?_
    rintro e w' ⟨rfl, q⟩
    exact ⟨rfl, WrTo.of h q⟩
  · obtain ⟨N, rfl⟩ : ∃ N : Nat, n = N := ⟨n.toNat, by omega⟩
    obtain ⟨B, rfl⟩ : ∃ B : Nat, b = B := ⟨b.toNat, by omega⟩
    by_cases ho : (B : Int) < 64 ∧ 2 ^ (B : Int).toNat ≤ (N : Int).toNat
    · have e : putE N B = 14 := by unfold putE; rw [if_neg hb, if_pos ho]
      rw [putL, e]
      refine (put_over r N B (by omega) (by omega) ho.2 w).mono ?_
      rintro e w' ⟨rfl, q⟩
      exact ⟨rfl, WrTo.of h q⟩
    · have e : putE N B = 0 := by unfold putE; rw [if_neg hb, if_neg ho]
      rw [putL, e, if_pos rfl]
      by_cases h64 : B < 64
      · have hlt : N < 2 ^ B := by
          rcases Nat.lt_or_ge N (2 ^ B) with h | h
          · exact h
          · exact absurd ⟨by omega, h⟩ ho
        exact put_lt r v l N B (by omega) h64 hlt w h hlen
      · obtain rfl : B = 64 := by omega
        exact put_64 r v l N 64 rfl (by omega) w h hlen
theorem putE_ok (n b : Nat) (h1 : 1 ≤ b) (h2 : b ≤ 64) (hn : n < 2 ^ b) : putE n b = 0 := by
  unfold putE
  rw [if_neg (by omega), if_neg]
  rintro ⟨_, h⟩
  have h : 2 ^ b ≤ n := h
  omega
theorem put_ok (r : Nat) (v : Value) (l : List Bool) (n b : Nat) (h1 : 1 ≤ b) (h2 : b ≤ 64) (hn : n < 2 ^ b) (w : World) (h : Wr w r v l) (hlen : l.length ≤ 100000) :
    Calls Try.prog 13 #[.pointer (some ⟨r, 0, none⟩), .int .u64 n, .int .i64 b] w fun e w' => e = .returned (.int .i64 0) ∧ WrTo w r v (l ++ bitsL n b) w' := by
  by_cases h64 : b < 64
  · exact put_lt r v l n b h1 h64 hn w h hlen
  · obtain rfl : b = 64 := by omega
    exact put_64 r v l n 64 rfl hn w h hlen

theorem Wr.bytes {w : World} {r : Nat} {g n cap : Nat} {l : List Bool} (h : Wr w r (.slice (some ⟨g, 0, none⟩) n cap) l) : IsBytes w g (packL l) := by
  intro j hj
  have hj2 : j < (packN l).length := by rw [packN_length]; rw [packL_length] at hj; exact hj
  refine ⟨?_, h.b.free j⟩
  rw [h.b.cell j (by rw [octV, List.length_map]; exact hj2), octV, List.getElem?_map, List.getElem?_eq_getElem hj2]
  have hb : (packN l)[j] < 256 := by simp only [packN, List.getElem_map]; exact byteN_lt _ _
  have e : ((packL l)[j].toNat) = (packN l)[j] := by
    simp only [packL, List.getElem_map]
    rw [UInt8.toNat_ofNat', Nat.mod_eq_of_lt hb]
  rw [e]
  rfl
set_option maxRecDepth 100000 in
set_option maxHeartbeats 400000 in
theorem wrText_is (r : Nat) (v : Value) (l : List Bool) (T : ByteArray) (hT : T.data.toList = packL l) (w : World) (h : Wr w r v l) : Calls Try.prog 14 #[.pointer (some ⟨r, 0, none⟩)] w fun e w' => e = .returned (.string T) ∧ Below w.heap.size w w' := by
  have c0 := h.S.cell 0 rfl
  obtain ⟨a, cap, hv⟩ := h.b.form
  have hlen : (octV (packN l)).length = (packL l).length := by rw [octV, List.length_map, packL, List.length_map]
  rw [hlen] at hv
  cases a with
  | none =>
    have hn : (packL l) = [] := by
      rcases h.b.2 with ⟨h0, h1⟩ | ⟨g, cap', cur, h0, _⟩
      · rw [hlen] at h1; exact List.eq_nil_of_length_eq_zero h1
      · rw [hv] at h0; simp at h0
    have hT0 : T = ⟨#[]⟩ := by
      rw [hn] at hT
      apply ByteArray.ext
      exact Array.toList_inj.1 hT
    have hcv : ∀ n c, (convert 23 9 (.slice none n c)).run Try.prog w = .ok (.string T) w := fun n c => by
      rw [hT0]
      exact run_convert_bytes_nil _ _ _ Try.underlying23 Try.underlying5 n c _ Try.underlying9
    subst hv
    clear h hT0
    go_enter Try.func14, Try.ntmps14
    go_wp2_with fail
    go_returns
    exact ⟨rfl, Below.refl _ _⟩
  | some x =>
    obtain ⟨g, hg⟩ : ∃ g, x = ⟨g, 0, none⟩ := by
      rcases h.b.2 with ⟨h0, _⟩ | ⟨g, cap', cur, h0, _⟩
      · rw [hv] at h0; simp at h0
      · rw [hv] at h0; simp at h0; exact ⟨g, h0.1⟩
    subst hg
    rw [hv] at h
    have hb := h.bytes
    have hcv : ∀ c, (convert 23 9 (.slice (some ⟨g, 0, none⟩) (packL l).length c)).run Try.prog w = .ok (.string T) w := fun c => string_run_as hb c rfl hT
    subst hv
    clear h hb
    go_enter Try.func14, Try.ntmps14
    go_wp2_with fail
    go_returns
    exact ⟨rfl, Below.refl _ _⟩
set_option maxRecDepth 100000 in
set_option maxHeartbeats 400000 in
theorem wrBytes_is (r : Nat) (v : Value) (l : List Bool) (s : ByteArray) (hs : s.size ≤ 1000) (hl : l.length ≤ 50000) (w : World) (h : Wr w r v l) : Calls Try.prog 19 #[.pointer (some ⟨r, 0, none⟩), .string s] w fun e w' => e = .returned (.int .i64 0) ∧ WrTo w r v (l ++ ubits s.data.toList) w' := by
  have H := Lib.hid h
  clear h
  go_enter Try.func19, Try.ntmps19
  go_wp2_with fail
  go_loopw [10] (fun i wr => ∃ j : Nat, j ≤ s.size ∧ i = .int .i64 j ∧ Hid (WrTo w r v (l ++ ubits (s.data.toList.take j)) wr)) (fun i _ => s.size - (intOf i).toNat)
  case atStart => exact ⟨0, by omega, rfl, Lib.hid (by rw [List.take_zero, ubits_nil, List.append_nil]; exact WrTo.of H.out (Below.refl _ _))⟩
  case round =>
    obtain ⟨j, hj, rfl, HI⟩ := hrel
    by_cases hlt : j < s.size
    · have hlt2 : (j : Int) < s.size := by omega
      have hc := s[j].toNat_lt
      have hcw : IntKind.u64.wrap (s[j].toNat : Int) = s[j].toNat := by rw [IntKind.wrap_u64]; omega
      obtain ⟨v1, k1, k2, k3⟩ := HI.out
      have hll : (l ++ ubits (s.data.toList.take j)).length ≤ 100000 := by
        rw [List.length_append, ubits_length, List.length_take]
        omega
      have HP := fun w h => put_ok r v1 (l ++ ubits (s.data.toList.take j)) s[j].toNat 8 (by omega) (by omega) hc w h hll
      have K1 := Lib.hid k1
      have K2 := Lib.hid k2
      have K3 := Lib.hid k3
      clear k1 k2 k3 hc HI
      have hsn : l ++ ubits (s.data.toList.take j) ++ bitsL s[j].toNat 8 = l ++ ubits (s.data.toList.take (j + 1)) := by
        have e : s.data.toList.take (j + 1) = s.data.toList.take j ++ [s[j]] := by
          rw [List.take_succ_eq_append_getElem (by rw [len_bytes]; exact hlt)]
          rfl
        rw [e, ubits_append, List.append_assoc]
        congr 1
      rw [hsn] at HP
      go_wp2_with fail
      refine (HP _ K1.out).mono ?_
      rintro e w4 ⟨rfl, h4⟩
      have H4 := Lib.hid (WrTo.join K2.out K3.out h4)
      clear h4 K1 K2 K3 HP
      go_wp2_with fail
      exact ⟨⟨j + 1, by omega, by go_num, H4⟩, by simp [intOf]; omega⟩
    · obtain rfl : j = s.size := by omega
      go_wp2_with fail
      go_returns
      have e : s.data.toList.take s.size = s.data.toList := List.take_of_length_le (by rw [len_bytes]; omega)
      rw [e] at HI
      exact ⟨rfl, HI.out⟩

end Go.Proofs.Ytljdkaajlmcpkaa
