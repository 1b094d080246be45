/-
  FidPlays: the acts that came in, opened: a slice of structs of two integers.
-/
import Derived.Test.YtlcjgphibodjkaaFidPlays
namespace Go.Proofs.Ytlcjgphibodjkaa
open Go.RowKit Go.WideShapes Go.Deep

theorem Reads.acts {w : World} {t e : TypeId} {v : Value} {fs : Array Field} (h : Reads w t [v]) (ht : Try.prog.underlying t = some (.slice e)) (he : Try.prog.underlying e = some (.struct fs)) (hc : Try.prog.cellsOf e = 2)
    (f g : Field) (hf : fs[0]? = some f) (hg : fs[1]? = some g) (hf0 : f.offset = 0) (hg0 : g.offset = 1) (hfk : Try.prog.underlying f.type = some (.int .i64)) (hgk : Try.prog.underlying g.type = some (.int .i64)) (hfc : Try.prog.cellsOf f.type = 1) (hgc : Try.prog.cellsOf g.type = 1) :
    ∃ a len cap, v = .slice a len cap ∧ IsActs w a len := by
  rcases h.slice ht with h0 | ⟨a, len, cap, h1, h2, h3, h4⟩
  · obtain rfl : v = .slice none 0 0 := by simpa using h0
    exact ⟨none, 0, 0, rfl, fun i hi => by omega⟩
  · obtain rfl : v = .slice (some a) len cap := by simpa using h1
    refine ⟨some a, len, cap, rfl, fun i hi => ?_⟩
    obtain ⟨ec, e1, e2, e3⟩ := h4 i (by omega)
    rw [hc] at e1 e2
    obtain ⟨x, x1, x2⟩ := e3.fieldInt he 0 f hf hfk hfc
    obtain ⟨y, y1, y2⟩ := e3.fieldInt he 1 g hg hgk hgc
    rw [hf0] at x1
    rw [hg0] at y1
    have c0 := e2 0 (by omega)
    have c1 := e2 1 (by omega)
    rw [List.getElem?_eq_getElem (by omega)] at x1 y1
    have x1' : ec[0] = .int .i64 x := by simpa using x1
    have y1' : ec[1] = .int .i64 y := by simpa using y1
    rw [x1'] at c0
    rw [y1'] at c1
    obtain ⟨b, off, spot⟩ := a
    have hspot : spot = none := by
      obtain ⟨ec', e1', e2', _⟩ := h4 0 (by omega)
      rw [hc] at e1'
      simpa [Addr.add] using World.cell?_spot (e2' 0 (by omega))
    subst hspot
    have ea : ∀ o i, (⟨b, o, none⟩ : Addr).add i = ⟨b, o + i, none⟩ := fun o i => by unfold Addr.add; split <;> simp_all
    rw [ea, ea] at c0 c1
    refine ⟨b, off, x, y, rfl, World.block_lt_of_cell? w _ c0, by simpa using c0, c1, ?_⟩
    exact bounds_i64 y2

end Go.Proofs.Ytlcjgphibodjkaa
