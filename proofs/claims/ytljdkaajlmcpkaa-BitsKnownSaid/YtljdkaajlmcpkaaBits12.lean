/-
  BitsBack: a writer beside two slices that grow.
-/
import Derived.Test.YtljdkaajlmcpkaaBits11
namespace Go.Proofs.Ytljdkaajlmcpkaa
open Go.RowKit

def Apart (u v : Value) : Prop := ∀ k, u.ownBlock = some k → v.ownBlock ≠ some k
theorem Apart.symm {u v : Value} (h : Apart u v) : Apart v u := fun k e e2 => h k e2 e
structure BB (w0 w : World) (r : Nat) (v vl vk : Value) (L : List Bool) (xs ks : List Value) : Prop where
  W : Wr w r v L
  rl : Row 29 w 0 vl xs
  rk : Row 3 w 0 vk ks
  bel : Below w0.heap.size w0 w
  hr : w0.heap.size ≤ r
  hv : ∀ k, v.ownBlock = some k → w0.heap.size ≤ k
  hl : ∀ k, vl.ownBlock = some k → w0.heap.size ≤ k
  hk : ∀ k, vk.ownBlock = some k → w0.heap.size ≤ k
  a1 : Apart v vl
  a2 : Apart v vk
  a3 : Apart vl vk
  n1 : vl.ownBlock ≠ some r
  n2 : vk.ownBlock ≠ some r
theorem u64_info : (Try.prog.info? 29).map (fun i => (i.zero, i.size, i.bytes)) = some (some (.int .u64 0), 1, 8) := by kernel_rfl
theorem int_info : (Try.prog.info? 3).map (fun i => (i.zero, i.size, i.bytes)) = some (some (.int .i64 0), 1, 8) := by kernel_rfl
theorem Row.own_lt {T : TypeId} {w : World} {B : Nat} {v : Value} {xs : List Value} (h : Row T w B v xs) {k : Nat} (e : v.ownBlock = some k) : k < w.heap.size := (h.lt k e).2
/-- The bits that were laid, number by number. -/
def flat (ps : List (Nat × Nat)) : List Bool := ps.flatMap (fun p => bitsL p.1 p.2)
theorem flat_snoc (ps : List (Nat × Nat)) (x b : Nat) : flat (ps ++ [(x, b)]) = flat ps ++ bitsL x b := by simp [flat]
def numsV (ps : List (Nat × Nat)) : List Value := ps.map (fun p => .int .u64 (p.1 : Int))
def widsV (ps : List (Nat × Nat)) : List Value := ps.map (fun p => .int .i64 (p.2 : Int))
theorem numsV_length (ps : List (Nat × Nat)) : (numsV ps).length = ps.length := by simp [numsV]
theorem widsV_length (ps : List (Nat × Nat)) : (widsV ps).length = ps.length := by simp [widsV]
theorem numsV_snoc (ps : List (Nat × Nat)) (x b : Nat) : numsV ps ++ [.int .u64 (x : Int)] = numsV (ps ++ [(x, b)]) := by simp [numsV]
theorem widsV_snoc (ps : List (Nat × Nat)) (x b : Nat) : widsV ps ++ [.int .i64 (b : Int)] = widsV (ps ++ [(x, b)]) := by simp [widsV]
section
variable {w0 w w' : World} {r : Nat} {v vl vk : Value} {L L' : List Bool} {xs ks : List Value}
theorem BB.put (h : BB w0 w r v vl vk L xs ks) (k : WrTo w r v L' w') : ∃ v', BB w0 w' r v' vl vk L' xs ks := by
  obtain ⟨v', k1, k2, k3⟩ := k
  have hl := fun j e => h.rl.own_lt (k := j) e
  have hk := fun j e => h.rk.own_lt (k := j) e
  refine ⟨v', k1, h.rl.wrote k2 (fun j e hp => ?_), h.rk.wrote k2 (fun j e hp => ?_), Wrote.below h.bel k2 (fun i hi => ?_), h.hr, fun j e => ?_, h.hl, h.hk, fun j e e2 => ?_, fun j e e2 => ?_, h.a3, h.n1, h.n2⟩
  · rcases hp with rfl | hp
    · exact h.n1 e
    · exact h.a1 j hp e
  · rcases hp with rfl | hp
    · exact h.n2 e
    · exact h.a2 j hp e
  · rcases hi with rfl | hi
    · exact h.hr
    · exact h.hv i hi
  · rcases k3 j e with h1 | h1
    · exact h.hv j h1
    · exact Nat.le_trans h.bel.size h1
  · rcases k3 j e with h1 | h1
    · exact h.a1 j h1 e2
    · have := hl j e2; omega
  · rcases k3 j e with h1 | h1
    · exact h.a2 j h1 e2
    · have := hk j e2; omega
theorem BB.pushl (h : BB w0 w r v vl vk L xs ks) (hlen : xs.length ≤ 1000) (y : Int) :
    ∃ g cap w', (Builtin.append_ #[22, 22] 22 #[vl, .slice (some ⟨w.heap.size, 0, none⟩) 1 1]).run Try.prog (w.alloc (.cells #[.int .u64 y] 29)) = .ok (.slice (some ⟨g, 0, none⟩) (xs.length + 1) cap) w' ∧ BB w0 w' r v (.slice (some ⟨g, 0, none⟩) (xs.length + 1) cap) vk L (xs ++ [.int .u64 y]) ks := by
  obtain ⟨g, cap, w', hr, r1, r2, r3, r4⟩ := Row.push (P := Try.prog) 22 (.int .u64 0) 8 Try.underlying22 u64_info rfl (by decide) (h.rl.alloc (.cells #[.int .u64 y] 29)) (Nat.zero_le _) ⟨w.heap.size, 0, none⟩ 1 1 [.int .u64 y] rfl (by decide) (World.news_of_block (heap_alloc_new w _)) (by intro u hu; simp at hu; subst hu; rfl) (by omega) 22
  have hv := fun j e => h.W.b.own_lt (k := j) e
  have hl := fun j e => h.rl.own_lt (k := j) e
  have hk := fun j e => h.rk.own_lt (k := j) e
  have hrl := h.W.S.lt
  have K : Wrote (fun k => vl.ownBlock = some k) w w' := (Wrote.alloc _ w _).trans (Wrote.ofGrown r2 _ (fun k e => e))
  have hg : vl.ownBlock = some g ∨ w.heap.size ≤ g := r3.imp id (fun e => by rw [e]; simp)
  refine ⟨g, cap, w', hr, h.W.wrote K h.n1 (fun j e => h.a1 j e), r1, h.rk.wrote K (fun j e e2 => h.a3 j e2 e), Wrote.below h.bel K h.hl, h.hr, h.hv, fun j e => ?_, h.hk, fun j e e2 => ?_, h.a2, fun j e e2 => ?_, fun e => ?_, h.n2⟩
  · simp [Value.ownBlock] at e
    subst e
    rcases hg with h1 | h1
    · exact h.hl _ h1
    · exact Nat.le_trans h.bel.size h1
  · simp [Value.ownBlock] at e2
    subst e2
    rcases hg with h1 | h1
    · exact h.a1 _ e h1
    · have := hv _ e; omega
  · simp [Value.ownBlock] at e
    subst e
    rcases hg with h1 | h1
    · exact h.a3 _ h1 e2
    · have := hk _ e2; omega
  · simp [Value.ownBlock] at e
    subst e
    rcases hg with h1 | h1
    · exact h.n1 h1
    · omega
theorem BB.pushk (h : BB w0 w r v vl vk L xs ks) (hlen : ks.length ≤ 1000) (y : Int) :
    ∃ g cap w', (Builtin.append_ #[28, 28] 28 #[vk, .slice (some ⟨w.heap.size, 0, none⟩) 1 1]).run Try.prog (w.alloc (.cells #[.int .i64 y] 3)) = .ok (.slice (some ⟨g, 0, none⟩) (ks.length + 1) cap) w' ∧ BB w0 w' r v vl (.slice (some ⟨g, 0, none⟩) (ks.length + 1) cap) L xs (ks ++ [.int .i64 y]) := by
  obtain ⟨g, cap, w', hr, r1, r2, r3, r4⟩ := Row.push (P := Try.prog) 28 (.int .i64 0) 8 Try.underlying28 int_info rfl (by decide) (h.rk.alloc (.cells #[.int .i64 y] 3)) (Nat.zero_le _) ⟨w.heap.size, 0, none⟩ 1 1 [.int .i64 y] rfl (by decide) (World.news_of_block (heap_alloc_new w _)) (by intro u hu; simp at hu; subst hu; rfl) (by omega) 28
  have hv := fun j e => h.W.b.own_lt (k := j) e
  have hl := fun j e => h.rl.own_lt (k := j) e
  have hk := fun j e => h.rk.own_lt (k := j) e
  have hrl := h.W.S.lt
  have K : Wrote (fun k => vk.ownBlock = some k) w w' := (Wrote.alloc _ w _).trans (Wrote.ofGrown r2 _ (fun k e => e))
  have hg : vk.ownBlock = some g ∨ w.heap.size ≤ g := r3.imp id (fun e => by rw [e]; simp)
  refine ⟨g, cap, w', hr, h.W.wrote K h.n2 (fun j e => h.a2 j e), h.rl.wrote K (fun j e => h.a3 j e), r1, Wrote.below h.bel K h.hk, h.hr, h.hv, h.hl, fun j e => ?_, h.a1, fun j e e2 => ?_, fun j e e2 => ?_, h.n1, fun e => ?_⟩
  · simp [Value.ownBlock] at e
    subst e
    rcases hg with h1 | h1
    · exact h.hk _ h1
    · exact Nat.le_trans h.bel.size h1
  · simp [Value.ownBlock] at e2
    subst e2
    rcases hg with h1 | h1
    · exact h.a2 _ e h1
    · have := hv _ e; omega
  · simp [Value.ownBlock] at e2
    subst e2
    rcases hg with h1 | h1
    · exact h.a3 _ e h1
    · have := hl _ e; omega
  · simp [Value.ownBlock] at e
    subst e
    rcases hg with h1 | h1
    · exact h.n2 h1
    · omega
end
/-- What is taken of numbers that were laid. -/
theorem flat_take (ps : List (Nat × Nat)) (i : Nat) (h : i < ps.length) (R : List Bool) : ((flat ps ++ R).drop (flat (ps.take i)).length).take ps[i].2 = bitsL ps[i].1 ps[i].2 := by
  have e : flat ps = flat (ps.take i) ++ (bitsL ps[i].1 ps[i].2 ++ flat (ps.drop (i + 1))) := by
    have hd := List.drop_eq_getElem_cons h
    have ht := List.take_append_drop i ps
    have e1 : flat ps = flat (ps.take i) ++ flat (ps.drop i) := by
      rw [flat, flat, flat, ← List.flatMap_append, ht]
    have e2 : flat (ps[i] :: ps.drop (i + 1)) = bitsL ps[i].1 ps[i].2 ++ flat (ps.drop (i + 1)) := List.flatMap_cons ..
    rw [e1, hd, e2]
  rw [e, List.append_assoc, List.append_assoc, List.drop_append, List.drop_of_length_le (Nat.le_refl _), List.nil_append, Nat.sub_self, List.drop_zero, List.take_append_of_le_length (by rw [bitsL_length]; omega), List.take_of_length_le (by rw [bitsL_length]; omega)]
theorem flat_take_succ (ps : List (Nat × Nat)) (i : Nat) (h : i < ps.length) : flat (ps.take (i + 1)) = flat (ps.take i) ++ bitsL ps[i].1 ps[i].2 := by
  rw [List.take_succ_eq_append_getElem h, ← flat_snoc]

end Go.Proofs.Ytljdkaajlmcpkaa
