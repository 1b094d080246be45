/-
  A slice of bools that came in. No function of the program.
-/
import Derived.Test.YtlcjgphibodjkaaOpen
namespace Go.Proofs.Ytlcjgphibodjkaa
open Go.RowKit Go.WideShapes Go.Deep

/-- A slice of bools that came in. -/
def IsBools (w : World) (a : Option Addr) (len : Nat) : Prop := ∃ bs : List Bool, bs.length = len ∧ (len = 0 ∨ ∃ b off, a = some ⟨b, off, none⟩ ∧ b < w.heap.size ∧ ∀ i, i < len → w.cell? ⟨b, off + i, none⟩ = some (.bool (bs.getD i false)))
def boolAt (w : World) (a : Addr) (i : Nat) : Bool := match w.cell? (a.add i) with | some (.bool b) => b | _ => false
theorem Reads.bools {w : World} {t e : TypeId} {v : Value} (h : Reads w t [v]) (ht : Try.prog.underlying t = some (.slice e)) (he : Try.prog.underlying e = some .bool) (hc : Try.prog.cellsOf e = 1) :
    ∃ a len cap, v = .slice a len cap ∧ IsBools w a len ∧ len ≤ maxLen := by
  rcases h.slice ht with h0 | ⟨a, len, cap, h1, h2, h3, h4⟩
  · obtain rfl : v = .slice none 0 0 := by simpa using h0
    exact ⟨none, 0, 0, rfl, ⟨[], rfl, .inl rfl⟩, by decide⟩
  · obtain rfl : v = .slice (some a) len cap := by simpa using h1
    have key : ∀ i, i < cap → w.cell? (a.add i) = some (.bool (boolAt w a i)) := by
      intro i hi
      obtain ⟨ec, e1, e2, e3⟩ := h4 i hi
      obtain ⟨b, rfl⟩ := e3.bool he
      have := e2 0 (by simp)
      rw [hc, Nat.mul_one] at this
      have h0 : ∀ x : Addr, x.add 0 = x := fun x => by cases x; simp [Addr.add]
      rw [h0] at this
      simp at this
      simp [boolAt, this]
    refine ⟨some a, len, cap, rfl, ⟨(List.range len).map (boolAt w a), by simp, ?_⟩, by omega⟩
    by_cases hl : len = 0
    · exact .inl hl
    · right
      obtain ⟨b, off, spot⟩ := a
      have hspot : spot = none := by simpa [Addr.add] using World.cell?_spot (key 0 (by omega))
      subst hspot
      have e : ∀ i, (⟨b, off, none⟩ : Addr).add i = ⟨b, off + i, none⟩ := fun i => by unfold Addr.add; split <;> simp_all
      refine ⟨b, off, rfl, World.block_lt_of_cell? w _ (key 0 (by omega)), fun i hi => ?_⟩
      rw [← e, key i (by omega), List.getD_eq_getElem?_getD, List.getElem?_map, List.getElem?_range hi]
      rfl
theorem IsBools.at {w : World} {a : Option Addr} {len : Nat} (h : IsBools w a len) {j : Nat} (hj : j < len) : ∃ b off x, a = some ⟨b, off, none⟩ ∧ b < w.heap.size ∧ w.cell? ⟨b, off + j, none⟩ = some (.bool x) := by
  obtain ⟨bs, _, h0 | ⟨b, off, h1, h2, h3⟩⟩ := h
  · omega
  · exact ⟨b, off, _, h1, h2, h3 j hj⟩

end Go.Proofs.Ytlcjgphibodjkaa
