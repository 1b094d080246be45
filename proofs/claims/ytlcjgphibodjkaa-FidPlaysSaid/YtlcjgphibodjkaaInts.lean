/-
  Slices of int that the call itself makes: what they hold, one more behind them, a store. No function of the program.
-/
import Derived.Test.YtlcjgphibodjkaaBase
import Derived.Deep.AppendLies
namespace Go.Proofs.Ytlcjgphibodjkaa
open Go.RowKit

/-- The slice value v owns a row (from block B on) whose elements are xs. -/
def Ints (w : World) (B : Nat) (v : Value) (xs : List Int) : Prop := w.ownsRow B 3 1 v xs.length (xs.map (Value.int .i64))
theorem int_info : (Try.prog.info? 3).map (fun i => (i.zero, i.size, i.bytes)) = some (some (.int .i64 0), 1, 8) := by kernel_rfl

theorem Ints.nil (w : World) (B : Nat) : Ints w B (.slice none 0 0) [] := World.ownsRow_nil _ _ _ _
theorem Ints.drew {w : World} {B : Nat} {v : Value} {xs : List Int} (h : Ints w B v xs) : Ints w.drew B v xs := h
theorem Ints.kept {w w' : World} {B : Nat} {v : Value} {xs : List Int} {row : Option Nat} (h : Ints w B v xs) (hg : w.grownBy w' row) (hne : v.ownBlock = none ∨ v.ownBlock ≠ row) : Ints w' B v xs := World.ownsRow.kept h hg hne
theorem Ints.alloc {w : World} {B : Nat} {v : Value} {xs : List Int} (h : Ints w B v xs) (o : Obj) : Ints (w.alloc o) B v xs := World.ownsRow.alloc h o
theorem Ints.lt {w : World} {B : Nat} {v : Value} {xs : List Int} (h : Ints w B v xs) : ∀ k, v.ownBlock = some k → B ≤ k ∧ k < w.heap.size := World.ownsRow.lt h
theorem Ints.cell {w : World} {B g n cap : Nat} {xs : List Int} (h : Ints w B (.slice (some ⟨g, 0, none⟩) n cap) xs) (j : Nat) (hj : j < xs.length) : w.cell? ⟨g, j, none⟩ = some (.int .i64 (xs.getD j 0)) := by
  have hn : xs.length = n := by
    rcases h.2 with ⟨h', _⟩ | ⟨g', cap', cur, h', _⟩
    · simp at h'
    · simp at h'; exact h'.2.1.symm
  unfold Ints at h
  rw [hn] at h
  rw [h.cellAt j (by omega), List.getElem?_map, List.getElem?_eq_getElem hj, List.getD_eq_getElem?_getD, List.getElem?_eq_getElem hj]
  rfl
theorem Ints.free {w : World} {B g n cap : Nat} {xs : List Int} (h : Ints w B (.slice (some ⟨g, 0, none⟩) n cap) xs) (j : Nat) : w.frozen? ⟨g, j, none⟩ = false := by
  have hn : xs.length = n := by
    rcases h.2 with ⟨h', _⟩ | ⟨g', cap', cur, h', _⟩
    · simp at h'
    · simp at h'; exact h'.2.1.symm
  unfold Ints at h
  rw [hn] at h
  exact h.frozenAt j
theorem Ints.len {w : World} {B g n cap : Nat} {xs : List Int} (h : Ints w B (.slice (some ⟨g, 0, none⟩) n cap) xs) : xs.length = n := by
  rcases h.2 with ⟨h', _⟩ | ⟨g', cap', cur, h', _⟩
  · simp at h'
  · simp at h'; exact h'.2.1.symm
theorem Ints.set {w : World} {B g n cap : Nat} {xs : List Int} (h : Ints w B (.slice (some ⟨g, 0, none⟩) n cap) xs) (j : Nat) (y : Int) : Ints (w.setCell ⟨g, j, none⟩ (.int .i64 y)) B (.slice (some ⟨g, 0, none⟩) n cap) (xs.set j y) := by
  have hn := h.len
  unfold Ints at h ⊢
  rw [List.length_set, hn, List.map_set]
  rw [hn] at h
  exact (h.stored j _).1
/-- A store elsewhere. -/
theorem Ints.other {w : World} {B g n cap : Nat} {xs : List Int} (h : Ints w B (.slice (some ⟨g, 0, none⟩) n cap) xs) (b o : Nat) (u : Value) (hne : g ≠ b) : Ints (w.setCell ⟨b, o, none⟩ u) B (.slice (some ⟨g, 0, none⟩) n cap) xs :=
  h.kept (setCell_grown w b o u) (.inr (by simp [Value.ownBlock, hne]))

/-- 'append(v, y)'. -/
theorem wpList_push {ops : Array Oper} {rest : List Oper} {o : Oper} {a : Act} {Q : Exit → Act → World → Prop} (hgd : o.guard = none) (s x : Operand)
    (ho : o.op = .call { callee := .builtin .append, args := #[s, x], argTypes := #[37, 37] }) (w0 : World) (B : Nat) (v : Value) (xs : List Int) (y : Int) (n : Nat) (hn : xs.length = n)
    (hs : a.eval s = v) (hown : Ints w0 B v xs) (hB : B ≤ w0.heap.size) (hx : a.eval x = .slice (some ⟨w0.heap.size, 0, none⟩) 1 1) (hlen : n ≤ 1000000)
    (h : ∀ g cap w', Ints w' B (.slice (some ⟨g, 0, none⟩) (n + 1) cap) (xs ++ [y]) → w0.grownBy w' v.ownBlock → (v.ownBlock = some g ∨ w0.heap.size ≤ g) → g < w'.heap.size → B ≤ g →
      wpList Try.prog ops Q rest (a.put o.dst (.slice (some ⟨g, 0, none⟩) (n + 1) cap)) w') :
    wpList Try.prog ops Q (o :: rest) a (w0.alloc (.cells #[.int .i64 y] 3)) := by
  subst hn
  obtain ⟨i0, hi, hz0, hz1, hz2⟩ := info_parts int_info
  refine wpList_append_lies _ hgd s x 37 ho B 3 i0 (.int .i64 0) 1 8 Try.underlying37 hi hz0 hz1 hz2 rfl (by decide) v xs.length (xs.map (Value.int .i64)) hs (World.ownsRow.alloc hown _) ⟨w0.heap.size, 0, none⟩ 1 1 [.int .i64 y] hx rfl
    (World.news_of_block (heap_alloc_new w0 _)) (by intro u hu; simp at hu; subst hu; rfl) (by decide) (by unfold maxLen; omega) (by omega) (by simp; omega) _ rfl ?_
  intro g cap w' h1 h2 h3 h4
  have hi : Ints w' B (.slice (some ⟨g, 0, none⟩) (xs.length + 1) cap) (xs ++ [y]) := by
    unfold Ints
    rw [List.length_append, List.map_append]
    exact h1
  have hg : w0.grownBy w' v.ownBlock := ⟨h2.os, h2.tape, h2.output, Nat.le_trans (by simp) h2.size, fun k hk hne => (h2.block k (by simp; omega) hne).trans (heap_alloc_old w0 _ hk)⟩
  refine h g cap w' hi hg ?_ h4 (hi.lt g rfl).1
  rcases h3 with h3 | h3
  · exact .inl h3
  · right; rw [h3]; simp
/-- Two slices, one of which has grown: they lie apart still. -/
theorem apart_grown {w0 w' : World} {B : Nat} {v v2 : Value} {xs2 : List Int} {g n cap : Nat} (h2 : Ints w0 B v2 xs2) (hne : v2.ownBlock = none ∨ v2.ownBlock ≠ v.ownBlock) (hg : w0.grownBy w' v.ownBlock) (hat : v.ownBlock = some g ∨ w0.heap.size ≤ g) :
    Ints w' B v2 xs2 ∧ (v2.ownBlock = none ∨ v2.ownBlock ≠ (Value.slice (some ⟨g, 0, none⟩) n cap).ownBlock) := by
  refine ⟨h2.kept hg hne, ?_⟩
  rcases hne with h | h
  · exact .inl h
  · right
    rcases hat with e | e
    · rw [e] at h; exact h
    · intro e2
      have := (h2.lt g e2).2
      omega

end Go.Proofs.Ytlcjgphibodjkaa
