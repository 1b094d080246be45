/-
  Generic facts on worlds (a block of one cell, what a call may write): lemmas for the walks. They speak of no program.
-/
import Derived.Test.YtlcjgphibodjkaaRows
import Derived.WalkKit
import Derived.WalkSpells
import Derived.WalkLawsBesides
import Derived.BigQuiet
import Derived.Lib.Hide
import Derived.Handy
import Derived.Deep.DeepCutAuto
namespace Go.Proofs.Ytlcjgphibodjkaa
open Go.RowKit

theorem setCell_grown (w : World) (b o : Nat) (v : Value) : w.grownBy (w.setCell ⟨b, o, none⟩ v) (some b) :=
  ⟨rfl, rfl, rfl, by simp, fun k _ hne => Below.heap_setCell _ _ _ _ (fun e => hne (by rw [e]))⟩
theorem grown_trans {a b c : World} {r : Option Nat} (h : a.grownBy b r) (k : b.grownBy c r) : a.grownBy c r :=
  ⟨k.os.trans h.os, k.tape.trans h.tape, k.output.trans h.output, Nat.le_trans h.size k.size, fun i hi hne => (k.block i (Nat.lt_of_lt_of_le hi h.size) hne).trans (h.block i hi hne)⟩
theorem below_of_grown {a b : World} {r B : Nat} (h : a.grownBy b (some r)) (hB : B ≤ a.heap.size) (hr : B ≤ r) : Below B a b :=
  (Below.refl _ _).grown h hB (fun k hk => by cases hk; exact hr)
theorem bthen {a b c : World} (h : Below a.heap.size a b) (k : Below b.heap.size b c) : Below a.heap.size a c := h.trans (k.mono h.size)

/-- A world of a class. (Not Subtype: simp opens 'for all' over that.) -/
structure WIn (I : World → Prop) where
  val : World
  property : I val
/-- A region that draws its order, every operation of which yields ONE value in whatever world of the class I, and leaves a world of the class: one walk, in the text's order. -/
theorem wp_region_inv {P : Program} {id : Nat} {Q : Exit → Act → World → Prop} {a : Act} {w : World} {l : List Oper} (I : World → Prop) (hm : P.follows .mixedOrders = true) (hB : Region.lexB .any l.toArray = true) (hI : I w.drew)
    (h : wpQuiet P l.toArray (fun w' => ∃ x : WIn I, w' = x.val) (fun a' => ∀ w', I w' → Q .normal a' w') l a) : (Code.region id l.toArray true).wp P Q a w := by
  have e : (fun a' : Act => ∀ w', I w' → Q .normal a' w') = (fun a' : Act => ∀ w', (∃ x : WIn I, w' = x.val) → Q .normal a' w') := by
    funext a'
    exact propext ⟨fun k w' ⟨x, hx⟩ => k w' (by rw [hx]; exact x.property), fun k w' hw => k w' ⟨⟨w', hw⟩, rfl⟩⟩
  rw [e] at h
  exact wp_region_quiet (C := fun w' => ∃ x : WIn I, w' = x.val) hm hB ⟨⟨_, hI⟩, rfl⟩ (by simpa using h)
theorem len_bytes (t : ByteArray) : t.data.toList.length = t.size := Array.length_toList
theorem size_mk (l : List UInt8) : (ByteArray.mk l.toArray).size = l.length := List.size_toArray ..

/-- A call inside such a region, at the class 'grown out of w0'. -/
theorem quiet_call {P : Program} {f : FuncId} {args : Array Value} {w0 : World} {v : Value} (x : WIn (Below w0.heap.size w0))
    (h : Calls P f args x.val fun e w' => e = .returned v ∧ Below x.val.heap.size x.val w') : Calls P f args x.val fun e w'' => e = .returned v ∧ ∃ y : WIn (Below w0.heap.size w0), w'' = y.val :=
  h.mono fun _ w' h => ⟨h.1, ⟨w', bthen x.property h.2⟩, rfl⟩

/-- A slice of integers that came in: nil, or a row of 'cap' cells that hold the numbers zs, each fitting its kind. -/
def IsRow (k : IntKind) (w : World) (a : Option Addr) (len cap : Nat) (zs : List Int) : Prop :=
  (a = none ∧ len = 0 ∧ cap = 0 ∧ zs = []) ∨
  ∃ x, a = some x ∧ len ≤ cap ∧ cap ≤ maxLen ∧ zs.length = cap ∧ (∀ i, i < zs.length → w.cell? (x.add i) = some (.int k (zs.getD i 0))) ∧ ∀ n ∈ zs, (Lit.int k n).wf = true
theorem IsRow.at {k : IntKind} {w : World} {a : Option Addr} {len cap : Nat} {zs : List Int} (h : IsRow k w a len cap zs) {j : Nat} (hj : j < len) :
    ∃ b off, a = some ⟨b, off, none⟩ ∧ b < w.heap.size ∧ ∀ i, i < len → w.cell? ⟨b, off + i, none⟩ = some (.int k (zs.getD i 0)) := by
  rcases h with ⟨_, rfl, _, _⟩ | ⟨x, rfl, hl, _, hz, hc, _⟩
  · omega
  · obtain ⟨b, off, spot⟩ := x
    have h0 := hc 0 (by omega)
    have hspot : spot = none := by simpa [Addr.add] using World.cell?_spot h0
    subst hspot
    have e : ∀ i, (⟨b, off, none⟩ : Addr).add i = ⟨b, off + i, none⟩ := fun i => by unfold Addr.add; split <;> simp_all
    refine ⟨b, off, rfl, ?_, fun i hi => by rw [← e]; exact hc i (by omega)⟩
    exact World.block_lt_of_cell? w _ h0
theorem IsRow.wf {k : IntKind} {w : World} {a : Option Addr} {len cap : Nat} {zs : List Int} (h : IsRow k w a len cap zs) : ∀ n ∈ zs, (Lit.int k n).wf = true := by
  rcases h with ⟨_, _, _, rfl⟩ | ⟨_, _, _, _, _, _, h⟩
  · intro n hn; cases hn
  · exact h
theorem IsRow.len_le {k : IntKind} {w : World} {a : Option Addr} {len cap : Nat} {zs : List Int} (h : IsRow k w a len cap zs) : len ≤ zs.length ∧ len ≤ maxLen := by
  rcases h with ⟨_, rfl, _, _⟩ | ⟨_, _, h1, h2, h3, _⟩
  · omega
  · omega

/-- A cell of a block that was just made; one of the block before. -/
theorem new_cell (w : World) (cs : Array Value) (T : TypeId) (o : Nat) (v : Value) (h : cs[o]? = some v) : (w.alloc (.cells cs T)).cell? ⟨w.heap.size, o, none⟩ = some v := by
  rw [World.cell?_alloc_new, h]
theorem new_cell2 (w : World) (cs : Array Value) (T : TypeId) (o : Nat) (v : Value) (ob : Obj) (h : cs[o]? = some v) : ((w.alloc (.cells cs T)).alloc ob).cell? ⟨w.heap.size, o, none⟩ = some v := by
  rw [World.cell?_alloc_lt _ _ _ (by simp), new_cell w cs T o v h]

end Go.Proofs.Ytlcjgphibodjkaa
