/-
  A writer beside the document's own.
-/
import Derived.Test.YtljdkaajlmcpkaaBits12
namespace Go.Proofs.Ytljdkaajlmcpkaa
open Go.RowKit

structure Two (w0 w : World) (r1 : Nat) (v : Value) (l : List Bool) (r2 : Nat) (v2 : Value) (l2 : List Bool) : Prop where
  A : Wr w r1 v l
  B : Rw w r2 v2 l2
  bel : Below w0.heap.size w0 w
  h1 : w0.heap.size ≤ r1
  h2 : w0.heap.size ≤ r2
  hv : ∀ k, v.ownBlock = some k → w0.heap.size ≤ k ∧ k ≠ r2
  hv2 : ∀ k, v2.ownBlock = some k → w0.heap.size ≤ k ∧ k ≠ r1
  ap : Apart v v2
  ne : r1 ≠ r2
section
variable {w0 w w' : World} {r1 r2 : Nat} {v v2 : Value} {l l' l2 : List Bool}
theorem Two.below (h : Two w0 w r1 v l r2 v2 l2) (k : Below w.heap.size w w') : Two w0 w' r1 v l r2 v2 l2 :=
  ⟨h.A.below k, h.B.below k, h.bel.trans (k.mono h.bel.size), h.h1, h.h2, h.hv, h.hv2, h.ap, h.ne⟩
theorem Two.stepA (h : Two w0 w r1 v l r2 v2 l2) (k : WrTo w r1 v l' w') : ∃ v', Two w0 w' r1 v' l' r2 v2 l2 ∧ Wrote (fun k => k = r1 ∨ v.ownBlock = some k) w w' ∧ (∀ k, v'.ownBlock = some k → v.ownBlock = some k ∨ w.heap.size ≤ k) := by
  obtain ⟨v', k1, k2, k3⟩ := k
  have hr2 := h.B.S.lt
  have ho2 := fun j e => h.B.b.own_lt (k := j) e
  refine ⟨v', ⟨k1, h.B.wrote k2 (fun hp => ?_) (fun j e hp => ?_), Wrote.below h.bel k2 (fun i hi => ?_), h.h1, h.h2, fun j e => ?_, h.hv2, fun j e e2 => ?_, h.ne⟩, k2, k3⟩
  · rcases hp with hp | hp
    · exact h.ne hp.symm
    · exact (h.hv _ hp).2 rfl
  · rcases hp with hp | hp
    · exact (h.hv2 j e).2 hp
    · exact h.ap j hp e
  · rcases hi with hi | hi
    · have := h.h1; omega
    · exact (h.hv i hi).1
  · rcases k3 j e with h0 | h0
    · exact h.hv j h0
    · have := h.bel.size; exact ⟨by omega, by omega⟩
  · rcases k3 j e with h0 | h0
    · exact h.ap j h0 e2
    · have := ho2 j e2; omega
theorem Two.stepB (h : Two w0 w r1 v l r2 v2 l2) (k : RwTo w r2 v2 l' w') : ∃ v', Two w0 w' r1 v l r2 v' l' ∧ Wrote (fun k => k = r2 ∨ v2.ownBlock = some k) w w' ∧ (∀ k, v'.ownBlock = some k → v2.ownBlock = some k ∨ w.heap.size ≤ k) := by
  obtain ⟨v', k1, k2, k3⟩ := k
  have hr1 := h.A.S.lt
  have ho1 := fun j e => h.A.b.own_lt (k := j) e
  refine ⟨v', ⟨h.A.wrote k2 (fun hp => ?_) (fun j e hp => ?_), k1, Wrote.below h.bel k2 (fun i hi => ?_), h.h1, h.h2, h.hv, fun j e => ?_, fun j e e2 => ?_, h.ne⟩, k2, k3⟩
  · rcases hp with hp | hp
    · exact h.ne hp
    · exact (h.hv2 _ hp).2 rfl
  · rcases hp with hp | hp
    · exact (h.hv j e).2 hp
    · exact h.ap j e hp
  · rcases hi with hi | hi
    · have := h.h2; omega
    · exact (h.hv2 i hi).1
  · rcases k3 j e with h0 | h0
    · exact h.hv2 j h0
    · have := h.bel.size; exact ⟨by omega, by omega⟩
  · rcases k3 j e2 with h0 | h0
    · exact h.ap j e h0
    · have := ho1 j e; omega
end
/-- A block of the call's own beside the two. -/
structure TwoX (w0 w : World) (r1 : Nat) (l : List Bool) (r2 : Nat) (l2 : List Bool) (bx : Nat) (cs : List Value) (T : TypeId) : Prop where
  ex : ∃ v v2, Two w0 w r1 v l r2 v2 l2 ∧ (∀ k, v.ownBlock = some k → k ≠ bx) ∧ (∀ k, v2.ownBlock = some k → k ≠ bx)
  X : Blk w bx cs T
  n1 : bx ≠ r1
  n2 : bx ≠ r2
section
variable {w0 w w' : World} {r1 r2 bx : Nat} {l l' l2 : List Bool} {cs : List Value} {T : TypeId}
theorem TwoX.below (h : TwoX w0 w r1 l r2 l2 bx cs T) (k : Below w.heap.size w w') : TwoX w0 w' r1 l r2 l2 bx cs T := by
  obtain ⟨v, v2, h1, h2⟩ := h.ex
  exact ⟨⟨v, v2, h1.below k, h2⟩, h.X.below k h.X.lt, h.n1, h.n2⟩
theorem TwoX.callA {f : FuncId} {args : Array Value} {R : Ending → Prop} (h : TwoX w0 w r1 l r2 l2 bx cs T) (hc : ∀ v, Wr w r1 v l → Calls Try.prog f args w fun e w' => R e ∧ WrTo w r1 v l' w') : Calls Try.prog f args w fun e w' => R e ∧ Hid (TwoX w0 w' r1 l' r2 l2 bx cs T) := by
  obtain ⟨v, v2, h1, h2, h3⟩ := h.ex
  have hx := h.X.lt
  refine (hc v h1.A).mono ?_
  rintro e w' ⟨he, k⟩
  obtain ⟨v', k1, k2, k3⟩ := h1.stepA k
  refine ⟨he, Lib.hid ⟨⟨v', v2, k1, fun j e => ?_, h3⟩, h.X.kept k2 (fun hp => ?_), h.n1, h.n2⟩⟩
  · rcases k3 j e with h0 | h0
    · exact h2 j h0
    · omega
  · rcases hp with hp | hp
    · exact h.n1 hp
    · exact h2 _ hp rfl
theorem TwoX.callB {f : FuncId} {args : Array Value} {R : Ending → Prop} (h : TwoX w0 w r1 l r2 l2 bx cs T) (hc : ∀ v, Rw w r2 v l2 → Calls Try.prog f args w fun e w' => R e ∧ RwTo w r2 v l' w') : Calls Try.prog f args w fun e w' => R e ∧ Hid (TwoX w0 w' r1 l r2 l' bx cs T) := by
  obtain ⟨v, v2, h1, h2, h3⟩ := h.ex
  have hx := h.X.lt
  refine (hc v2 h1.B).mono ?_
  rintro e w' ⟨he, k⟩
  obtain ⟨v', k1, k2, k3⟩ := h1.stepB k
  refine ⟨he, Lib.hid ⟨⟨v, v', k1, h2, fun j e => ?_⟩, h.X.kept k2 (fun hp => ?_), h.n1, h.n2⟩⟩
  · rcases k3 j e with h0 | h0
    · exact h3 j h0
    · omega
  · rcases hp with hp | hp
    · exact h.n2 hp
    · exact h3 _ hp rfl
theorem TwoX.textA (h : Hid (TwoX w0 w r1 l r2 l2 bx cs T)) (S : ByteArray) (hS : Hid (S.data.toList = packL l)) : Calls Try.prog 14 #[.pointer (some ⟨r1, 0, none⟩)] w fun e w' => e = .returned (.string S) ∧ Below w.heap.size w w' := by
  obtain ⟨v, v2, h1, h2, h3⟩ := h.out.ex
  exact wrText_is r1 v l S hS.out w h1.A
theorem TwoX.textB (h : Hid (TwoX w0 w r1 l r2 l2 bx cs T)) (hl : l2.length ≤ 20000) (S : ByteArray) (hS : Hid (S.data.toList = packL l2)) : Calls Try.prog 22 #[.pointer (some ⟨r2, 0, none⟩)] w fun e w' => e = .returned (.string S) ∧ Below w.heap.size w w' := by
  obtain ⟨v, v2, h1, h2, h3⟩ := h.out.ex
  exact rwText_is r2 v2 l2 hl S hS.out w h1.B
end

end Go.Proofs.Ytljdkaajlmcpkaa
