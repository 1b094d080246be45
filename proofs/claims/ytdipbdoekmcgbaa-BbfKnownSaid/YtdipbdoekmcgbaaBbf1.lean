/-
  bbf: head, sizes by contract.
-/
import Derived.Test.YtdipbdoekmcgbaaModcod3
import Derived.Test.YtdipbdoekmcgbaaBbh6
import Derived.Laws.IdiomCopy
namespace Go.Proofs.Ytdipbdoekmcgbaa
open Go.RowKit

theorem bitsN_least (num : Int) (short : Bool) (h : 0 < bitsN num short) : 3072 ≤ bitsN num short := by
  by_cases hn : num < 1 ∨ 28 < num
  · have e : bitsN num short = 0 := by unfold bitsN; rw [if_pos hn]
    omega
  · obtain ⟨n, rfl⟩ : ∃ n : Nat, num = n := ⟨num.toNat, by omega⟩
    exact (by decide +kernel : ∀ n : Nat, n < 29 → 1 ≤ n → ∀ short : Bool, 0 < bitsN n short → 3072 ≤ bitsN n short) n (by omega) (by omega) short h
set_option maxRecDepth 100000 in
set_option maxHeartbeats 400000 in
theorem head_is (n : Nat) (hn : n ≤ 100000) (w : World) : Calls Try.prog 36 #[.int .i64 n] w fun e w' => e = .returned (headV 24576 0 ((8 * n : Nat) : Int) 0 0) ∧ Below w.heap.size w w' := by
  go_enter Try.func36, Try.ntmps36
  go_wp2_with fail
  go_returns
  exact ⟨by push_cast; rfl, (Below.refl _ _).alloc (Nat.le_refl _) _⟩

set_option maxRecDepth 100000 in
set_option maxHeartbeats 400000 in
theorem rhead_is (n : Nat) (hn : n ≤ 100000) (w : World) : Calls Try.prog 40 #[.int .i64 n] w fun e w' => e = .returned (headV 24576 0 ((8 * n : Nat) : Int) 0 0) ∧ Below w.heap.size w w' := by
  go_enter Try.func40, Try.ntmps40
  go_wp2_with fail
  go_returns
  exact ⟨by push_cast; rfl, (Below.refl _ _).alloc (Nat.le_refl _) _⟩

set_option maxRecDepth 100000 in
set_option maxHeartbeats 400000 in
theorem sizes_no (num : Int) (short pilots : Bool) (h : ¬ 0 < bitsN num short) (w : World) : Calls Try.prog 35 #[modeV num short pilots] w fun e w' => e = .returned (.tuple #[.int .i64 0, .int .i64 0, .int .i64 15]) ∧ Below w.heap.size w w' := by
  have hK := fun w => mod_kbch num short pilots w
  rw [if_neg h, if_neg h] at hK
  unfold modeV at *
  go_enter Try.func35, Try.ntmps35
  go_wp2_with fail
  refine (hK _).mono ?_
  rintro e w2 ⟨rfl, q2⟩
  go_wp2_with fail
  go_returns
  exact ⟨rfl, bthen ((Below.refl _ _).alloc (Nat.le_refl _) _) q2⟩

set_option maxRecDepth 100000 in
set_option maxHeartbeats 400000 in
theorem sizes_is (num : Int) (short pilots : Bool) (h : 0 < bitsN num short) (w : World) : Calls Try.prog 35 #[modeV num short pilots] w fun e w' => e = .returned (.tuple #[.int .i64 (bitsN num short / 8), .int .i64 (bitsN num short / 8 - 10), .int .i64 0]) ∧ Below w.heap.size w w' := by
  have hK := fun w => mod_kbch num short pilots w
  have hF := fun w => mod_field num short pilots w
  rw [if_pos h, if_pos h] at hK hF
  have hr := bitsN_range num short
  generalize bitsN num short = r at *
  unfold modeV at *
  go_enter Try.func35, Try.ntmps35
  go_wp2_with fail
  refine (hK _).mono ?_
  rintro e w2 ⟨rfl, q2⟩
  have B := (Blk.new w [.int .i64 num, .bool short, .bool pilots] 41).below q2 (by simp)
  have c0 := B.cell 0 rfl
  have c1 := B.cell 1 rfl
  have c2 := B.cell 2 rfl
  have hq : Below w.heap.size w w2 := bthen ((Below.refl _ _).alloc (Nat.le_refl _) _) q2
  clear q2
  go_wp2_with fail
  refine (hF _).mono ?_
  rintro e w3 ⟨rfl, q3⟩
  go_wp2_with fail
  go_returns
  exact ⟨rfl, bthen hq q3⟩

theorem setCells_below {w0 : World} (b : Nat) : ∀ (vs : List Value) (o : Nat) {w : World}, Below w0.heap.size w0 w → w0.heap.size ≤ b → Below w0.heap.size w0 (w.setCells b o vs)
  | [], _, _, h, _ => h
  | v :: vs, o, _, h, hb => setCells_below b vs (o + 1) (h.setCell hb v) hb
theorem setCells_wrote (p : Nat → Prop) (b : Nat) (hp : p b) : ∀ (vs : List Value) (o : Nat) (w : World), Wrote p w (w.setCells b o vs)
  | [], _, w => Wrote.refl _ w
  | v :: vs, o, w => (Wrote.set p w b o v hp).trans (setCells_wrote p b hp vs (o + 1) _)
abbrev bvals (m : List UInt8) : List Value := m.map (fun c => Value.int .u8 (c.toNat : Int))
/-- 'copy(b[at:], s)' of a string that goes in. -/
theorem run_copy_string (w : World) (dT sT ty elem : TypeId) (b o dLen dCap : Nat) (s : ByteArray) (hu : Try.prog.underlying dT = some (.slice elem)) (hs : (Try.prog.info? elem).map (·.size) = some 1) (hn : s.size ≤ dLen)
    (hc : ∀ j, j < s.size → (w.cell? ⟨b, o + j, none⟩).isSome = true) (hf : ∀ j, j < s.size → w.frozen? ⟨b, o + j, none⟩ = false) :
    (Builtin.copy_ #[dT, sT] ty #[.slice (some ⟨b, o, none⟩) dLen dCap, .string s]).run Try.prog w = .ok (.int .i64 s.size) (w.setCells b o (bvals s.data.toList)) := by
  have hl : (bvals s.data.toList).length = s.size := by rw [List.length_map, len_bytes]
  have hst := run_storeCells_cells (P := Try.prog) b o (bvals s.data.toList) 0 w (by rw [hl]; simpa using hc) (by rw [hl]; simpa using hf) (by intro v hv; obtain ⟨c, _, rfl⟩ := List.mem_map.1 hv; rfl)
  cases hq : Try.prog.info? elem with
  | none => simp [hq] at hs
  | some i =>
    have hmin : Nat.min s.size dLen = s.size := Nat.min_eq_left hn
    rw [Nat.add_zero] at hst
    have ht : List.take s.size (List.map (fun b : UInt8 => Value.int .u8 (b.toNat : Int)) s.data.toList) = bvals s.data.toList := List.take_of_length_le (by rw [List.length_map, len_bytes]; omega)
    simp [Builtin.copy_, run_underlying hu, Builtin.lenOf, Builtin.firstCells, sizeOf, typeInfo, hq, hmin, ht, hst]
    rfl
theorem IsBytes.splice {w : World} {b : Nat} {l m : List UInt8} (h : IsBytes w b l) (at' : Nat) (hm : at' + m.length ≤ l.length) : IsBytes (w.setCells b at' (bvals m)) b (l.take at' ++ m ++ l.drop (at' + m.length)) := by
  intro j hj
  have hjl : j < l.length := by simp at hj; omega
  refine ⟨?_, by rw [World.frozen?_setCells]; exact (h j hjl).2⟩
  by_cases h1 : j < at' ∨ at' + m.length ≤ j
  · rw [World.cell?_setCells_out b _ _ _ _ (fun _ _ => by simp; omega), (h j hjl).1]
    have e : (l.take at' ++ m ++ l.drop (at' + m.length))[j] = l[j] := by
      rcases h1 with h1 | h1
      · rw [List.getElem_append_left (by simp; omega), List.getElem_append_left (by simp; omega), List.getElem_take]
      · rw [List.getElem_append_right (by simp; omega), List.getElem_drop]
        congr 1
        simp
        omega
    rw [e]
  · obtain ⟨k, rfl⟩ : ∃ k, j = at' + k := ⟨j - at', by omega⟩
    have hk : k < m.length := by omega
    rw [World.cell?_setCells_in b _ _ _ (fun i hi => by rw [(h (at' + i) (by simp at hi; omega)).1]; rfl) k (by simp; omega)]
    have e : (l.take at' ++ m ++ l.drop (at' + m.length))[at' + k] = m[k] := by
      have hp : (l.take at').length = at' := by simp; omega
      rw [List.getElem_append_left (by simp; omega), List.getElem_append_right (by rw [hp]; omega)]
      congr 1
      rw [hp]
      omega
    rw [e]
    simp

end Go.Proofs.Ytdipbdoekmcgbaa
