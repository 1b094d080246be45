/-
  'Wrote p w w'': of the blocks that were, only those of p may have changed. Blocks that are known whole. No function of the program.
-/
import Derived.Test.YtlcjgphibodjkaaBase
namespace Go.Proofs.Ytlcjgphibodjkaa
open Go.RowKit

structure Wrote (p : Nat → Prop) (w w' : World) : Prop where
  os : w'.os = w.os
  tape : w'.tape = w.tape
  output : w'.output = w.output
  size : w.heap.size ≤ w'.heap.size
  block : ∀ k, k < w.heap.size → ¬ p k → w'.heap[k]? = w.heap[k]?
theorem Wrote.refl (p : Nat → Prop) (w : World) : Wrote p w w := ⟨rfl, rfl, rfl, Nat.le_refl _, fun _ _ _ => rfl⟩
theorem Wrote.trans {p : Nat → Prop} {a b c : World} (h : Wrote p a b) (k : Wrote p b c) : Wrote p a c :=
  ⟨k.os.trans h.os, k.tape.trans h.tape, k.output.trans h.output, Nat.le_trans h.size k.size, fun i hi hp => (k.block i (Nat.lt_of_lt_of_le hi h.size) hp).trans (h.block i hi hp)⟩
theorem Wrote.mono {p q : Nat → Prop} {a b : World} (h : Wrote p a b) (hpq : ∀ k, p k → q k) : Wrote q a b := ⟨h.os, h.tape, h.output, h.size, fun i hi hp => h.block i hi (fun e => hp (hpq i e))⟩
theorem Wrote.drew {p : Nat → Prop} {a b : World} (h : Wrote p a b) : Wrote p a b.drew := ⟨h.os, h.tape, h.output, h.size, h.block⟩
theorem Wrote.of {w w' : World} {r : Nat} (h : w.grownBy w' (some r)) (p : Nat → Prop) (hp : p r) : Wrote p w w' :=
  ⟨h.os, h.tape, h.output, h.size, fun k hk hne => h.block k hk (fun e => hne (by injection e with e; rw [e]; exact hp))⟩
theorem Wrote.set (p : Nat → Prop) (w : World) (b o : Nat) (v : Value) (hp : p b) : Wrote p w (w.setCell ⟨b, o, none⟩ v) := Wrote.of (setCell_grown w b o v) p hp
theorem Wrote.alloc (p : Nat → Prop) (w : World) (o : Obj) : Wrote p w (w.alloc o) := ⟨rfl, rfl, rfl, by simp, fun k hk _ => heap_alloc_old w o hk⟩
theorem Wrote.ofBelow {w w' : World} (h : Below w.heap.size w w') (p : Nat → Prop) : Wrote p w w' := ⟨h.os, h.tape, h.output, h.size, fun k hk _ => h.block k hk⟩
/-- What a call wrote, below a mark that lies below all that it may write. -/
theorem Wrote.below {p : Nat → Prop} {w0 w w' : World} (h : Below w0.heap.size w0 w) (k : Wrote p w w') (hp : ∀ i, p i → w0.heap.size ≤ i) : Below w0.heap.size w0 w' :=
  ⟨k.os.trans h.os, k.tape.trans h.tape, k.output.trans h.output, Nat.le_trans h.size k.size, fun i hi => (k.block i (Nat.lt_of_lt_of_le hi h.size) (fun e => by have := hp i e; omega)).trans (h.block i hi)⟩
theorem Wrote.cell {p : Nat → Prop} {w w' : World} (h : Wrote p w w') {k o : Nat} {v : Value} (hc : w.cell? ⟨k, o, none⟩ = some v) (hp : ¬ p k) : w'.cell? ⟨k, o, none⟩ = some v := by
  have e := h.block k (World.block_lt_of_cell? w _ hc) hp
  unfold World.cell? at *
  rw [e]
  exact hc

/-- A block that is known whole, nothing of it frozen. -/
def Blk (w : World) (b : Nat) (cs : List Value) (T : TypeId) : Prop := w.heap[b]? = some (.cells cs.toArray T (0, 0))
theorem Blk.lt {w : World} {b : Nat} {cs : List Value} {T : TypeId} (h : Blk w b cs T) : b < w.heap.size := lt_of_block h
theorem Blk.cell {w : World} {b : Nat} {cs : List Value} {T : TypeId} (h : Blk w b cs T) (o : Nat) {v : Value} (hv : cs[o]? = some v) : w.cell? ⟨b, o, none⟩ = some v := by
  unfold Blk at h
  simp [World.cell?, h]
  simpa using hv
theorem Blk.free {w : World} {b : Nat} {cs : List Value} {T : TypeId} (h : Blk w b cs T) (o : Nat) : w.frozen? ⟨b, o, none⟩ = false := by
  unfold Blk at h
  simp [World.frozen?, h]
theorem Blk.set {w : World} {b : Nat} {cs : List Value} {T : TypeId} (h : Blk w b cs T) (o : Nat) (v : Value) : Blk (w.setCell ⟨b, o, none⟩ v) b (cs.set o v) T := by
  have hlt := h.lt
  unfold Blk at *
  have h' : w.heap[b] = .cells cs.toArray T (0, 0) := by simpa [Array.getElem?_eq_getElem hlt] using h
  show (w.heap.modify b _)[b]? = _
  rw [Array.getElem?_eq_getElem (by simpa using hlt), Array.getElem_modify_self, h']
  simp
theorem Blk.new (w : World) (cs : List Value) (T : TypeId) : Blk (w.alloc (.cells cs.toArray T)) w.heap.size cs T := heap_alloc_new w _
theorem Blk.drew {w : World} {b : Nat} {cs : List Value} {T : TypeId} (h : Blk w b cs T) : Blk w.drew b cs T := h
theorem Blk.alloc {w : World} {b : Nat} {cs : List Value} {T : TypeId} (h : Blk w b cs T) (o : Obj) : Blk (w.alloc o) b cs T := (heap_alloc_old w o h.lt).trans h
theorem Blk.kept {w w' : World} {b : Nat} {cs : List Value} {T : TypeId} {p : Nat → Prop} (h : Blk w b cs T) (k : Wrote p w w') (hp : ¬ p b) : Blk w' b cs T := (k.block b h.lt hp).trans h
theorem Blk.other {w : World} {b c o : Nat} {cs : List Value} {T : TypeId} {v : Value} (h : Blk w b cs T) (hne : b ≠ c) : Blk (w.setCell ⟨c, o, none⟩ v) b cs T := h.kept (Wrote.set (· = c) w c o v rfl) hne
theorem Blk.below {w w' : World} {b B : Nat} {cs : List Value} {T : TypeId} (h : Blk w b cs T) (k : Below B w w') (hB : b < B) : Blk w' b cs T := (k.block b hB).trans h

end Go.Proofs.Ytlcjgphibodjkaa
