/-
  A slice of slices of integers that came in. No function of the program.
-/
import Derived.Test.YtlcjgphibodjkaaOpen
namespace Go.Proofs.Ytlcjgphibodjkaa
open Go.RowKit Go.WideShapes Go.Deep

def numAt (w : World) (a : Addr) (i : Nat) : Int := match w.cell? (a.add i) with | some (.int _ n) => n | _ => 0
/-- Integers of one cell in a slice. -/
theorem Reads.row {w : World} {t e : TypeId} {k : IntKind} {v : Value} (h : Reads w t [v]) (ht : Try.prog.underlying t = some (.slice e)) (he : Try.prog.underlying e = some (.int k)) (hc : Try.prog.cellsOf e = 1) :
    ∃ a len cap zs, v = .slice a len cap ∧ IsRow k w a len cap zs := by
  rcases h.slice ht with h0 | ⟨a, len, cap, h1, h2, h3, h4⟩
  · obtain rfl : v = .slice none 0 0 := by simpa using h0
    exact ⟨none, 0, 0, [], rfl, .inl ⟨rfl, rfl, rfl, rfl⟩⟩
  · obtain rfl : v = .slice (some a) len cap := by simpa using h1
    have key : ∀ i, i < cap → ∃ n, w.cell? (a.add i) = some (.int k n) ∧ (Lit.int k n).wf = true := by
      intro i hi
      obtain ⟨ec, e1, e2, e3⟩ := h4 i hi
      obtain ⟨n, rfl, hw⟩ := e3.int he
      have := e2 0 (by simp)
      rw [hc, Nat.mul_one] at this
      have h0 : ∀ x : Addr, x.add 0 = x := fun x => by cases x; simp [Addr.add]
      rw [h0] at this
      exact ⟨n, this, hw⟩
    refine ⟨some a, len, cap, (List.range cap).map (numAt w a), rfl, .inr ⟨a, rfl, h2, h3, by simp, fun i hi => ?_, fun n hn => ?_⟩⟩
    · have hi' : i < cap := by simpa using hi
      obtain ⟨n, e1, _⟩ := key i hi'
      rw [e1, List.getD_eq_getElem?_getD, List.getElem?_map, List.getElem?_range hi']
      simp [numAt, e1]
    · obtain ⟨i, hi, rfl⟩ := List.mem_map.1 hn
      obtain ⟨n, e1, e2⟩ := key i (List.mem_range.1 hi)
      simpa [numAt, e1] using e2

/-- A slice of such slices. -/
def IsGrid (k : IntKind) (w : World) (a : Option Addr) (len cap : Nat) : Prop :=
  (a = none ∧ len = 0 ∧ cap = 0) ∨
  ∃ x, a = some x ∧ len ≤ cap ∧ cap ≤ maxLen ∧ ∀ i, i < cap → ∃ ai li ci zi, w.cell? (x.add i) = some (.slice ai li ci) ∧ IsRow k w ai li ci zi
theorem Reads.grid {w : World} {t e u : TypeId} {k : IntKind} {v : Value} (h : Reads w t [v]) (ht : Try.prog.underlying t = some (.slice e)) (he : Try.prog.underlying e = some (.slice u)) (hu : Try.prog.underlying u = some (.int k)) (hce : Try.prog.cellsOf e = 1) (hcu : Try.prog.cellsOf u = 1) :
    ∃ a len cap, v = .slice a len cap ∧ IsGrid k w a len cap := by
  rcases h.slice ht with h0 | ⟨a, len, cap, h1, h2, h3, h4⟩
  · obtain rfl : v = .slice none 0 0 := by simpa using h0
    exact ⟨none, 0, 0, rfl, .inl ⟨rfl, rfl, rfl⟩⟩
  · obtain rfl : v = .slice (some a) len cap := by simpa using h1
    refine ⟨some a, len, cap, rfl, .inr ⟨a, rfl, h2, h3, fun i hi => ?_⟩⟩
    obtain ⟨ec, e1, e2, e3⟩ := h4 i hi
    rw [hce] at e1
    obtain ⟨c, rfl⟩ : ∃ c, ec = [c] := by
      match ec, e1 with
      | [c], _ => exact ⟨c, rfl⟩
    have e4 := e2 0 (by simp)
    rw [hce, Nat.mul_one] at e4
    have h0 : ∀ x : Addr, x.add 0 = x := fun x => by cases x; simp [Addr.add]
    rw [h0] at e4
    obtain ⟨ai, li, ci, zi, hv, hr⟩ := e3.row he hu hcu
    refine ⟨ai, li, ci, zi, ?_, hr⟩
    rw [e4]
    simp [hv]
theorem IsGrid.len_le {k : IntKind} {w : World} {a : Option Addr} {len cap : Nat} (h : IsGrid k w a len cap) : len ≤ maxLen ∧ len ≤ cap := by
  rcases h with ⟨_, rfl, _⟩ | ⟨_, _, h1, h2, _⟩
  · exact ⟨Nat.zero_le _, Nat.zero_le _⟩
  · exact ⟨Nat.le_trans h1 h2, h1⟩
theorem IsGrid.at {k : IntKind} {w : World} {a : Option Addr} {len cap : Nat} (h : IsGrid k w a len cap) {j : Nat} (hj : j < len) :
    ∃ b off ai li ci zi, a = some ⟨b, off, none⟩ ∧ b < w.heap.size ∧ w.cell? ⟨b, off + j, none⟩ = some (.slice ai li ci) ∧ IsRow k w ai li ci zi := by
  rcases h with ⟨_, rfl, _⟩ | ⟨x, rfl, h1, _, h2⟩
  · omega
  · obtain ⟨ai, li, ci, zi, hc, hr⟩ := h2 j (by omega)
    obtain ⟨b, off, spot⟩ := x
    have hspot : spot = none := by
      obtain ⟨_, _, _, _, hc0, _⟩ := h2 0 (by omega)
      simpa [Addr.add] using World.cell?_spot hc0
    subst hspot
    have e : (⟨b, off, none⟩ : Addr).add j = ⟨b, off + j, none⟩ := by unfold Addr.add; split <;> simp_all
    rw [e] at hc
    exact ⟨b, off, ai, li, ci, zi, rfl, World.block_lt_of_cell? w _ hc, hc, hr⟩

end Go.Proofs.Ytlcjgphibodjkaa
