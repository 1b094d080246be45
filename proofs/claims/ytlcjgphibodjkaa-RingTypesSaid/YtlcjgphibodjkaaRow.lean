/-
  Slices that the call itself makes, of elements of one cell each: what they hold, more behind them, a store. No function of the program.
-/
import Derived.Test.YtlcjgphibodjkaaWrote
import Derived.Deep.AppendLies
import Derived.RangeFuncOwn
namespace Go.Proofs.Ytlcjgphibodjkaa
open Go.RowKit

/-- The slice value v owns a row (from block B on) of elements of the type T, whose cells are xs. -/
def Row (T : TypeId) (w : World) (B : Nat) (v : Value) (xs : List Value) : Prop := w.ownsRow B T 1 v xs.length xs
section
variable {T : TypeId} {w w' : World} {B : Nat} {v : Value} {xs : List Value}
theorem Row.nil (T : TypeId) (w : World) (B : Nat) : Row T w B (.slice none 0 0) [] := World.ownsRow_nil _ _ _ _
theorem Row.drew (h : Row T w B v xs) : Row T w.drew B v xs := h
theorem Row.kept {row : Option Nat} (h : Row T w B v xs) (hg : w.grownBy w' row) (hne : v.ownBlock = none ∨ v.ownBlock ≠ row) : Row T w' B v xs := World.ownsRow.kept h hg hne
theorem Row.alloc (h : Row T w B v xs) (o : Obj) : Row T (w.alloc o) B v xs := World.ownsRow.alloc h o
theorem Row.lt (h : Row T w B v xs) : ∀ k, v.ownBlock = some k → B ≤ k ∧ k < w.heap.size := World.ownsRow.lt h
theorem Row.wrote {p : Nat → Prop} (h : Row T w B v xs) (k : Wrote p w w') (hp : ∀ j, v.ownBlock = some j → ¬ p j) : Row T w' B v xs := by
  refine ⟨h.1, ?_⟩
  rcases h.2 with h0 | ⟨g, cap, cur, hv, hb, hg, rest⟩
  · exact .inl h0
  · refine .inr ⟨g, cap, cur, hv, hb, ?_, rest⟩
    rw [k.block g (lt_of_block hg) (hp g (by rw [hv]; rfl))]
    exact hg
/-- A turn of a block that holds no cells. -/
theorem Row.turn {row : Option Nat} (h : Row T w B v xs) (hg : w.grownBy w' row) (hr : ∀ r, row = some r → ∃ o : Obj, w.heap[r]? = some o ∧ o.isCells = false) : Row T w' B v xs := by
  refine ⟨h.1, ?_⟩
  rcases h.2 with h0 | ⟨g, cap, cur, hv, hb, hgg, rest⟩
  · exact .inl h0
  · refine .inr ⟨g, cap, cur, hv, hb, ?_, rest⟩
    rw [hg.block g (lt_of_block hgg) (fun e => by
      obtain ⟨o, ho, hc⟩ := hr g e.symm
      rw [hgg] at ho
      injection ho with ho
      rw [← ho] at hc
      simp [Obj.isCells] at hc)]
    exact hgg
theorem Blk.turn {row : Option Nat} {b : Nat} {cs : List Value} {T : TypeId} (h : Blk w b cs T) (hg : w.grownBy w' row) (hr : ∀ r, row = some r → ∃ o : Obj, w.heap[r]? = some o ∧ o.isCells = false) : Blk w' b cs T :=
  (hg.block b h.lt (fun e => by
      obtain ⟨o, ho, hc⟩ := hr b e.symm
      unfold Blk at h
      rw [h] at ho
      injection ho with ho
      rw [← ho] at hc
      simp [Obj.isCells] at hc)).trans h
theorem Row.mono {B' : Nat} (h : Row T w B v xs) (hB : B' ≤ B) : Row T w B' v xs := by
  refine ⟨h.1, ?_⟩
  rcases h.2 with h0 | ⟨g, cap, cur, hv, hb, rest⟩
  · exact .inl h0
  · exact .inr ⟨g, cap, cur, hv, Nat.le_trans hB hb, rest⟩
theorem Row.form (h : Row T w B v xs) : ∃ a cap, v = .slice a xs.length cap := by
  rcases h.2 with ⟨h0, h1⟩ | ⟨g, cap, cur, hv, _⟩
  · exact ⟨none, 0, by rw [h0, h1]⟩
  · exact ⟨_, _, hv⟩
theorem Row.at (h : Row T w B v xs) (hn : 0 < xs.length) : ∃ g cap, v = .slice (some ⟨g, 0, none⟩) xs.length cap ∧ B ≤ g ∧ g < w.heap.size ∧ xs.length ≤ cap ∧ cap ≤ maxLen := by
  rcases h.2 with ⟨_, h1⟩ | ⟨g, cap, cur, hv, hb, hg, hnc, hcm, _⟩
  · omega
  · exact ⟨g, cap, hv, hb, lt_of_block hg, hnc, hcm⟩
theorem Row.cell {g n cap : Nat} (h : Row T w B (.slice (some ⟨g, 0, none⟩) n cap) xs) (j : Nat) (hj : j < xs.length) : w.cell? ⟨g, j, none⟩ = xs[j]? := by
  have hn : xs.length = n := by
    rcases h.2 with ⟨h', _⟩ | ⟨g', cap', cur, h', _⟩
    · simp at h'
    · simp at h'; exact h'.2.1.symm
  unfold Row at h
  rw [hn] at h
  exact h.cellAt j (by omega)
theorem Row.free {g n cap : Nat} (h : Row T w B (.slice (some ⟨g, 0, none⟩) n cap) xs) (j : Nat) : w.frozen? ⟨g, j, none⟩ = false := by
  have hn : xs.length = n := by
    rcases h.2 with ⟨h', _⟩ | ⟨g', cap', cur, h', _⟩
    · simp at h'
    · simp at h'; exact h'.2.1.symm
  unfold Row at h
  rw [hn] at h
  exact h.frozenAt j
theorem Row.len {a : Option Addr} {n cap : Nat} (h : Row T w B (.slice a n cap) xs) : xs.length = n := by
  rcases h.2 with ⟨h', h0⟩ | ⟨g', cap', cur, h', _⟩
  · simp at h'; omega
  · simp at h'; exact h'.2.1.symm
theorem Row.set {g n cap : Nat} (h : Row T w B (.slice (some ⟨g, 0, none⟩) n cap) xs) (j : Nat) (y : Value) : Row T (w.setCell ⟨g, j, none⟩ y) B (.slice (some ⟨g, 0, none⟩) n cap) (xs.set j y) := by
  have hn := h.len
  unfold Row at h ⊢
  rw [List.length_set, hn]
  rw [hn] at h
  exact (h.stored j _).1
/-- 'append(v, ys...)', run. -/
theorem Row.push {P : Program} (S : TypeId) (z : Value) (bytes : Nat) (hS : P.underlying S = some (.slice T)) (hT : (P.info? T).map (fun i => (i.zero, i.size, i.bytes)) = some (some z, 1, bytes)) (hz : z.cells.size = 1) (hby : bytes ≤ 16)
    (h : Row T w B v xs) (hB : B ≤ w.heap.size) (a : Addr) (m c : Nat) (ys : List Value) (hl : ys.length = m) (hm : 0 < m) (hy : ∀ j u, ys[j]? = some u → w.cell? (a.add j) = some u) (h1 : ∀ u ∈ ys, u.oneCell' = true) (hlen : xs.length + m ≤ 1000000) (ty : TypeId) :
    ∃ g cap w', (Builtin.append_ #[S, S] ty #[v, .slice (some a) m c]).run P w = .ok (.slice (some ⟨g, 0, none⟩) (xs.length + m) cap) w' ∧ Row T w' B (.slice (some ⟨g, 0, none⟩) (xs.length + m) cap) (xs ++ ys) ∧ w.grownBy w' v.ownBlock ∧ (v.ownBlock = some g ∨ g = w.heap.size) ∧ g < w'.heap.size := by
  obtain ⟨i0, hi, hz0, hz1, hz2⟩ := info_parts hT
  obtain ⟨g, cap, w', hr, r1, r2, r3, r4⟩ := run_append_lies (P := P) w S ty B T i0 z 1 bytes hS hi hz0 hz1 hz2 hz (by decide) v xs.length xs h a m c ys (by omega) hy h1 hm (by unfold maxLen; omega)
    (by have : (xs.length + m) * bytes ≤ 1000000 * 16 := Nat.mul_le_mul hlen hby; omega) hB _ rfl
  refine ⟨g, cap, w', hr, ?_, r2, r3, r4⟩
  unfold Row
  rw [List.length_append, hl]
  exact r1
end
/-- What a row that grew may have touched. -/
theorem Wrote.ofGrown {w w' : World} {r : Option Nat} (h : w.grownBy w' r) (p : Nat → Prop) (hp : ∀ k, r = some k → p k) : Wrote p w w' :=
  ⟨h.os, h.tape, h.output, h.size, fun k hk hne => h.block k hk (fun e => hne (hp k e.symm))⟩
theorem Wrote.turn {p : Nat → Prop} {w w1 w2 : World} {row : Option Nat} (h : Wrote p w w1) (hg : w1.grownBy w2 row) (hr : ∀ r, row = some r → w.heap.size ≤ r) : Wrote p w w2 :=
  ⟨hg.os.trans h.os, hg.tape.trans h.tape, hg.output.trans h.output, Nat.le_trans h.size hg.size, fun k hk hp => (hg.block k (Nat.lt_of_lt_of_le hk h.size) (fun e => by have := hr k e.symm; omega)).trans (h.block k hk hp)⟩
theorem Wrote.setNew {p : Nat → Prop} {w w' : World} (h : Wrote p w w') {b : Nat} (hb : w.heap.size ≤ b) (o : Nat) (v : Value) : Wrote p w (w'.setCell ⟨b, o, none⟩ v) :=
  ⟨h.os, h.tape, h.output, by rw [World.size_setCell]; exact h.size, fun k hk hp => ((setCell_grown w' b o v).block k (Nat.lt_of_lt_of_le hk h.size) (fun e => by injection e with e; omega)).trans (h.block k hk hp)⟩
/-- 'append' at a step of a region that draws its order, its run being known. -/
theorem step_append_known {P : Program} {ops : Array Oper} {o : Oper} {a : Act} {w : World} {K : Act → World → Prop} {Q : Exit → Act → World → Prop} {E : Prop} (hgd : o.guard = none) (s x : Operand) (t : TypeId)
    (ho : o.op = .call { callee := .builtin .append, args := #[s, x], argTypes := #[t, t] }) (vs vx v' : Value) (w' : World) (hs : a.eval s = vs) (hx : a.eval x = vx)
    (hr : (Builtin.append_ #[t, t] o.type #[vs, vx]).run P w = .ok v' w') (h : K (a.put o.dst v') w') : if Region.wanted o (yielded ops a.tmps) = true then Oper.wp P o a w K Q else E := by
  have hw : Region.wanted o (yielded ops a.tmps) = true := by simp [Region.wanted, hgd]
  rw [if_pos hw]
  unfold Oper.wp execOp
  simp only [ho, resolve, invoke, builtin, Sem.run_bind, Sem.run_pure, Result.andThen_ok, List.map_toArray, List.map_cons, List.map_nil, hs, hx, hr]
  exact h
theorem bool_info : (Try.prog.info? 4).map (fun i => (i.zero, i.size, i.bytes)) = some (some (.bool false), 1, 1) := by kernel_rfl

end Go.Proofs.Ytlcjgphibodjkaa
