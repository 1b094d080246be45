/-
  CountParts: the walk.
-/
import Derived.Test.YtbdlkkbjkbjanaaCountLaw
import Derived.Test.YtbdlkkbjkbjanaaCountTurned
import Derived.Laws.AppendOwnNone
namespace Go.Proofs.Ytbdlkkbjkbjanaa
open Go.RowKit

/-- 'append(v, u...)': u a slice that the call made, of one element at least. -/
theorem wpList_pushAll {ops : Array Oper} {rest : List Oper} {o : Oper} {a : Act} {Q : Exit → Act → World → Prop} (hgd : o.guard = none) (s x : Operand)
    (ho : o.op = .call { callee := .builtin .append, args := #[s, x], argTypes := #[22, 22] }) (w0 : World) (B : Nat) (v : Value) (xs : List Int) (n : Nat) (hn : xs.length = n)
    (hs : a.eval s = v) (hown : Ints w0 B v xs) (hB : B ≤ w0.heap.size) (B2 g2 m c : Nat) (ys : List Int) (hx : a.eval x = .slice (some ⟨g2, 0, none⟩) m c) (hy : Ints w0 B2 (.slice (some ⟨g2, 0, none⟩) m c) ys) (hm : 0 < m) (hlen : n + m ≤ 1000000)
    (h : ∀ g cap w', Ints w' B (.slice (some ⟨g, 0, none⟩) (n + m) cap) (xs ++ ys) → w0.grownBy w' v.ownBlock → B ≤ g →
      wpList Try.prog ops Q rest (a.put o.dst (.slice (some ⟨g, 0, none⟩) (n + m) cap)) w') :
    wpList Try.prog ops Q (o :: rest) a w0 := by
  subst hn
  have hym := hy.len
  obtain ⟨i0, hi, hz0, hz1, hz2⟩ := info_parts int_info
  refine wpList_append_lies _ hgd s x 22 ho B 3 i0 (.int .i64 0) 1 8 Try.underlying22 hi hz0 hz1 hz2 rfl (by decide) v xs.length (xs.map (Value.int .i64)) hs hown ⟨g2, 0, none⟩ m c (ys.map (Value.int .i64)) hx (by simp [hym])
    (fun j u hu => ?_) (by intro u hu; obtain ⟨y, _, rfl⟩ := List.mem_map.1 hu; rfl) hm (by unfold maxLen; omega) (by omega) hB _ rfl ?_
  · have hj : j < ys.length := by have := (List.getElem?_eq_some_iff.1 hu).1; simpa using this
    rw [List.getElem?_map, List.getElem?_eq_getElem hj] at hu
    have e := hy.cell j hj
    rw [List.getD_eq_getElem?_getD, List.getElem?_eq_getElem hj] at e
    rw [Addr.add_lit, Nat.zero_add]
    rw [e]
    exact hu
  · intro g cap w' h1 h2 h3 h4
    have hi' : Ints w' B (.slice (some ⟨g, 0, none⟩) (xs.length + m) cap) (xs ++ ys) := by
      unfold Ints
      rw [List.length_append, List.map_append, hym]
      exact h1
    exact h g cap w' hi' h2 (hi'.lt g rfl).1
theorem Ints.below {w w' : World} {B : Nat} {v : Value} {xs : List Int} (h : Ints w B v xs) (k : Below w.heap.size w w') : Ints w' B v xs :=
  h.kept (row := none) ⟨k.os, k.tape, k.output, k.size, fun j hj _ => k.block j hj⟩ (by
    cases hv : v.ownBlock with
    | none => exact .inl rfl
    | some j => exact .inr (by simp))

/-- What 'plain' gives. -/
structure Plain (w w' : World) (v : Value) (xs : List Int) : Prop where
  i : Ints w' w.heap.size v xs
  nil : xs = [] → v = .slice none 0 0
  bel : Below w.heap.size w w'
  len : xs.length ≤ 50
  rng : ∀ x ∈ xs, 0 ≤ x ∧ x ≤ 9223372036854775807

set_option maxRecDepth 100000 in
set_option maxHeartbeats 400000 in
theorem cplain (w00 : World) (a0 : Option Addr) (len0 cap0 : Nat) (z0 : List Int) (w : World) (hr0 : IsRow .u64 w00 a0 len0 cap0 z0) (hbw : Below w00.heap.size w00 w) :
    Calls Try.prog 34 #[.slice a0 len0 cap0] w fun e w' => ∃ v xs, e = .returned v ∧ Plain w w' v xs := by
  have hlen := hr0.len_le.2
  unfold maxLen at hlen
  have HBW := Lib.hid hbw
  clear hbw
  go_enter Try.func34, Try.ntmps34
  go_wp2_with fail
  go_loopw [3, 4] (fun v i wr => ∃ (k : Nat) (xs : List Int), k ≤ len0 ∧ k ≤ 50 ∧ i = .int .i64 k ∧ Hid (Plain w wr v xs) ∧ xs.length = k) (fun _ i _ => (50 - intOf i).toNat)
  case atStart => exact ⟨0, [], by omega, by omega, rfl, Lib.hid ⟨Ints.nil _ _, fun _ => rfl, Below.refl _ _, by simp, fun x hx => (by cases hx)⟩, rfl⟩
  case round =>
    obtain ⟨k, xs, hk, hk2, rfl, hp, hxl⟩ := hrel
    by_cases hlt : k < len0
    · by_cases hlt2 : k < 50
      · obtain ⟨b2, off, rfl, hb2, hcl⟩ := hr0.at (j := k) (by omega)
        obtain ⟨hx1, hx2⟩ := u64_rng hr0 hlt
        have hcm := hcl k (by omega)
        generalize z0.getD k 0 = x at hx1 hx2 hcm
        have hcw := (hp.out.bel.cell (p := ⟨b2, off + k, none⟩) (Nat.lt_of_lt_of_le hb2 HBW.out.size)).trans ((HBW.out.cell (p := ⟨b2, off + k, none⟩) hb2).trans hcm)
        have hsz := hp.out.bel.size
        have HX : Hid (0 ≤ x / 2 ∧ x / 2 ≤ 9223372036854775807) := Lib.hid (by omega)
        clear hcl hcm
        go_wp2_with (at_builtin; refine wpList_push rfl (.tmp 15) (.tmp 22) rfl wr w.heap.size u3 xs (x / 2) k hxl rfl hp.out.i hsz rfl (by omega) ?_; intro g cap w2 hi1 hg1 hat1 hl1 hb1; have HI1 := Lib.hid hi1; have HG1 := Lib.hid hg1; clear hg1 hi1 hat1)
        exact ⟨⟨k + 1, xs ++ [x / 2], by omega, by omega, by go_num, Lib.hid ⟨HI1.out, fun h => (by simp at h), hp.out.bel.grown HG1.out hsz (fun j hj => (hp.out.i.lt j hj).1), by simp; omega, fun y hy => by
          rcases List.mem_append.1 hy with hy | hy
          · exact hp.out.rng y hy
          · obtain rfl : y = x / 2 := by simpa using hy
            exact HX.out⟩, by simp [hxl]⟩, by simp [intOf]; omega⟩
      · go_wp2_with fail
        go_returns
        exact ⟨_, xs, rfl, hp.out⟩
    · go_wp2_with fail
      go_returns
      exact ⟨_, xs, rfl, hp.out⟩

theorem sumA_ok {xs : List Int} (h : ∀ x ∈ xs, 0 ≤ x ∧ x ≤ 9223372036854775807) : (sumA xs = (xs.sum, 0) ∧ 0 ≤ xs.sum ∧ xs.sum ≤ 9223372036854775807) ∨ (sumA xs = (0, 14) ∧ 9223372036854775807 < xs.sum) := by
  have hn : negL xs = false := by
    unfold negL
    rw [List.any_eq_false]
    intro x hx
    have := (h x hx).1
    simpa using this
  have h0 := sum_nonneg (fun x hx => (h x hx).1)
  rw [sumA_eq, hn, if_neg (by decide)]
  by_cases hs : xs.sum ≤ 9223372036854775807
  · rw [if_pos hs]; exact .inl ⟨rfl, h0, hs⟩
  · rw [if_neg hs]; exact .inr ⟨rfl, by omega⟩
theorem sumA_two {n m : Int} (hn : 0 ≤ n) (hm : 0 ≤ m) : sumA [n, m] = if n + m ≤ 9223372036854775807 then (n + m, 0) else (0, 14) := by
  rw [sumA_eq, if_neg (by unfold negL; simp; omega)]
  simp
/-- Sums of parts. -/
theorem sums_law {xs ys : List Int} (hx : ∀ x ∈ xs, 0 ≤ x ∧ x ≤ 9223372036854775807) (hy : ∀ x ∈ ys, 0 ≤ x ∧ x ≤ 9223372036854775807) :
    (∃ n m, sumA xs = (n, 0) ∧ sumA ys = (m, 0) ∧ 0 ≤ n ∧ n ≤ 9223372036854775807 ∧ 0 ≤ m ∧ m ≤ 9223372036854775807 ∧ sumA [n, m] = sumA (xs ++ ys)) ∨
    (∃ k, sumA xs = (k, 14) ∧ sumA (xs ++ ys) = (0, 14)) ∨ (∃ n k, sumA xs = (n, 0) ∧ sumA ys = (k, 14) ∧ sumA (xs ++ ys) = (0, 14)) := by
  have hxy : ∀ x ∈ xs ++ ys, 0 ≤ x ∧ x ≤ 9223372036854775807 := fun x h => by
    rcases List.mem_append.1 h with h | h
    · exact hx x h
    · exact hy x h
  have x0 := sum_nonneg (fun x h => (hx x h).1)
  have y0 := sum_nonneg (fun x h => (hy x h).1)
  have hall := sumA_ok hxy
  rw [List.sum_append] at hall
  rcases sumA_ok hx with ⟨h1, h2, h3⟩ | ⟨h1, h2⟩
  · rcases sumA_ok hy with ⟨k1, k2, k3⟩ | ⟨k1, k2⟩
    · left
      refine ⟨_, _, h1, k1, h2, h3, k2, k3, ?_⟩
      rw [sumA_two h2 k2]
      rcases hall with ⟨a1, a2, a3⟩ | ⟨a1, a2⟩
      · rw [if_pos a3, a1]
      · rw [if_neg (by omega), a1]
    · right; right
      refine ⟨_, _, h1, k1, ?_⟩
      rcases hall with ⟨a1, a2, a3⟩ | ⟨a1, a2⟩
      · omega
      · exact a1
  · right; left
    refine ⟨_, h1, ?_⟩
    rcases hall with ⟨a1, a2, a3⟩ | ⟨a1, a2⟩
    · omega
    · exact a1
theorem hasZ_append (xs ys : List Int) : hasZ (xs ++ ys) = (hasZ xs || hasZ ys) := by unfold hasZ; rw [List.any_append]
theorem timesA_ok {xs : List Int} (h : ∀ x ∈ xs, 0 ≤ x ∧ x ≤ 9223372036854775807) :
    (hasZ xs = true ∧ timesA xs = (0, 0)) ∨ (hasZ xs = false ∧ 1 ≤ prodL xs ∧ ((prodL xs ≤ 9223372036854775807 ∧ timesA xs = (prodL xs, 0)) ∨ (9223372036854775807 < prodL xs ∧ timesA xs = (0, 14)))) := by
  have hn : negL xs = false := by
    unfold negL
    rw [List.any_eq_false]
    intro x hx
    have := (h x hx).1
    simpa using this
  rw [timesA_eq, hn, if_neg (by decide)]
  cases hz : hasZ xs with
  | true => left; exact ⟨rfl, by rw [if_pos rfl]⟩
  | false =>
    right
    rw [if_neg (by decide)]
    refine ⟨rfl, prodL_pos (pos_of hn hz), ?_⟩
    by_cases hs : prodL xs ≤ 9223372036854775807
    · exact .inl ⟨hs, by rw [if_pos hs]⟩
    · exact .inr ⟨by omega, by rw [if_neg hs]⟩
/-- Products of parts. -/
theorem times_law {xs ys : List Int} (hx : ∀ x ∈ xs, 0 ≤ x ∧ x ≤ 9223372036854775807) (hy : ∀ x ∈ ys, 0 ≤ x ∧ x ≤ 9223372036854775807) :
    (∃ n m, timesA xs = (n, 0) ∧ timesA ys = (m, 0) ∧ 0 ≤ n ∧ n ≤ 9223372036854775807 ∧ 0 ≤ m ∧ m ≤ 9223372036854775807 ∧ timesA [n, m] = timesA (xs ++ ys)) ∨
    ((timesA (xs ++ ys) = (0, 14) ∨ timesA (xs ++ ys) = (0, 0)) ∧ ((∃ k, timesA xs = (k, 14)) ∨ (∃ n k, timesA xs = (n, 0) ∧ timesA ys = (k, 14)))) := by
  have hxy : ∀ x ∈ xs ++ ys, 0 ≤ x ∧ x ≤ 9223372036854775807 := fun x h => by
    rcases List.mem_append.1 h with h | h
    · exact hx x h
    · exact hy x h
  have hall := timesA_ok hxy
  rw [hasZ_append, prodL_append] at hall
  have two : ∀ n m : Int, 0 ≤ n → n ≤ 9223372036854775807 → 0 ≤ m → m ≤ 9223372036854775807 → timesA [n, m] = if n = 0 ∨ m = 0 then (0, 0) else if n * m ≤ 9223372036854775807 then (n * m, 0) else (0, 14) := by
    intro n m n0 _ m0 _
    rw [timesA_eq, if_neg (by unfold negL; simp; omega)]
    by_cases h : n = 0 ∨ m = 0
    · rw [if_pos h, if_pos (by unfold hasZ; simpa using h)]
    · rw [if_neg h, if_neg (by unfold hasZ; simpa using h)]
      simp [prodL]
  rcases timesA_ok hx with ⟨z1, h1⟩ | ⟨z1, p1, ⟨h1, t1⟩ | ⟨h1, t1⟩⟩
  · have ha : timesA (xs ++ ys) = (0, 0) := by
      rcases hall with ⟨_, a⟩ | ⟨a, _⟩
      · exact a
      · rw [z1] at a; cases a
    rcases timesA_ok hy with ⟨z2, k1⟩ | ⟨z2, p2, ⟨k1, t2⟩ | ⟨k1, t2⟩⟩
    · left
      exact ⟨0, 0, h1, k1, by omega, by omega, by omega, by omega, by rw [two 0 0 (by omega) (by omega) (by omega) (by omega), if_pos (.inl rfl), ha]⟩
    · left
      exact ⟨0, _, h1, t2, by omega, by omega, by omega, k1, by rw [two _ _ (by omega) (by omega) (by omega) k1, if_pos (.inl rfl), ha]⟩
    · right
      exact ⟨.inr ha, .inr ⟨_, _, h1, t2⟩⟩
  · rcases timesA_ok hy with ⟨z2, k1⟩ | ⟨z2, p2, ⟨k1, t2⟩ | ⟨k1, t2⟩⟩
    · left
      have ha : timesA (xs ++ ys) = (0, 0) := by
        rcases hall with ⟨_, a⟩ | ⟨a, _⟩
        · exact a
        · rw [z2] at a; simp at a
      exact ⟨_, 0, t1, k1, by omega, h1, by omega, by omega, by rw [two _ _ (by omega) h1 (by omega) (by omega), if_pos (.inr rfl), ha]⟩
    · left
      refine ⟨_, _, t1, t2, by omega, h1, by omega, k1, ?_⟩
      rw [two _ _ (by omega) h1 (by omega) k1, if_neg (by omega)]
      rcases hall with ⟨a, _⟩ | ⟨_, _, ⟨a1, a2⟩ | ⟨a1, a2⟩⟩
      · rw [z1, z2] at a; cases a
      · rw [if_pos a1, a2]
      · rw [if_neg (by omega), a2]
    · right
      refine ⟨?_, .inr ⟨_, _, t1, t2⟩⟩
      rcases hall with ⟨_, a⟩ | ⟨_, _, ⟨a1, a2⟩ | ⟨_, a2⟩⟩
      · exact .inr a
      · have : 1 * prodL ys ≤ prodL xs * prodL ys := Int.mul_le_mul_of_nonneg_right p1 (by omega)
        omega
      · exact .inl a2
  · right
    refine ⟨?_, .inl ⟨_, t1⟩⟩
    rcases hall with ⟨_, a⟩ | ⟨a0, _, ⟨a1, a2⟩ | ⟨_, a2⟩⟩
    · exact .inr a
    · rcases timesA_ok hy with ⟨z2, _⟩ | ⟨_, p2, _⟩
      · rw [z2] at a0; simp at a0
      · have : prodL xs * 1 ≤ prodL xs * prodL ys := Int.mul_le_mul_of_nonneg_left p2 (by omega)
        omega
    · exact .inl a2

end Go.Proofs.Ytbdlkkbjkbjanaa
