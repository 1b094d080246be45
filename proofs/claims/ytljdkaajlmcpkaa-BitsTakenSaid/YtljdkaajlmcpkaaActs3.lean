/-
  A slice of structs of a text and two integers that came in; a writer beside the document's own. No function of the program.
-/
import Derived.Test.YtljdkaajlmcpkaaOpenB
import Derived.Test.YtljdkaajlmcpkaaBits12
namespace Go.Proofs.Ytljdkaajlmcpkaa
open Go.RowKit Go.WideShapes Go.Deep

def IsActs3 (w : World) (a : Option Addr) (len : Nat) : Prop := ∀ i, i < len → ∃ b off, ∃ t : ByteArray, ∃ n z : Int, a = some ⟨b, off, none⟩ ∧ b < w.heap.size ∧ w.cell? ⟨b, off + i * 3, none⟩ = some (.string t) ∧ w.cell? ⟨b, off + i * 3 + 1, none⟩ = some (.int .u64 n) ∧ w.cell? ⟨b, off + i * 3 + 2, none⟩ = some (.int .i64 z) ∧ t.size ≤ maxLen ∧ (0 ≤ n ∧ n ≤ 18446744073709551615) ∧ (-9223372036854775808 ≤ z ∧ z ≤ 9223372036854775807)
theorem Reads.acts3 {w : World} {t e : TypeId} {v : Value} {fs : Array Field} (h : Reads w t [v]) (ht : Try.prog.underlying t = some (.slice e)) (he : Try.prog.underlying e = some (.struct fs)) (hc : Try.prog.cellsOf e = 3)
    (f0 f1 f2 : Field) (h0 : fs[0]? = some f0) (h1 : fs[1]? = some f1) (h2 : fs[2]? = some f2) (o0 : f0.offset = 0) (o1 : f1.offset = 1) (o2 : f2.offset = 2)
    (k0 : Try.prog.underlying f0.type = some .string) (k1 : Try.prog.underlying f1.type = some (.int .u64)) (k2 : Try.prog.underlying f2.type = some (.int .i64)) (c0 : Try.prog.cellsOf f0.type = 1) (c1 : Try.prog.cellsOf f1.type = 1) (c2 : Try.prog.cellsOf f2.type = 1) :
    ∃ a len cap, v = .slice a len cap ∧ IsActs3 w a len := by
  rcases h.slice ht with h0' | ⟨a, len, cap, a1, a2, a3, a4⟩
  · obtain rfl : v = .slice none 0 0 := by simpa using h0'
    exact ⟨none, 0, 0, rfl, fun i hi => by omega⟩
  · obtain rfl : v = .slice (some a) len cap := by simpa using a1
    refine ⟨some a, len, cap, rfl, fun i hi => ?_⟩
    obtain ⟨ec, e1, e2, e3⟩ := a4 i (by omega)
    rw [hc] at e1 e2
    obtain ⟨x, x1, x2⟩ := e3.fieldStr he 0 f0 h0 k0 c0
    obtain ⟨y, y1, y2⟩ := e3.fieldInt he 1 f1 h1 k1 c1
    obtain ⟨z, z1, z2⟩ := e3.fieldInt he 2 f2 h2 k2 c2
    rw [o0] at x1
    rw [o1] at y1
    rw [o2] at z1
    have d0 := e2 0 (by omega)
    have d1 := e2 1 (by omega)
    have d2 := e2 2 (by omega)
    rw [List.getElem?_eq_getElem (by omega)] at x1 y1 z1
    have x1' : ec[0] = .string x := by simpa using x1
    have y1' : ec[1] = .int .u64 y := by simpa using y1
    have z1' : ec[2] = .int .i64 z := by simpa using z1
    rw [x1'] at d0
    rw [y1'] at d1
    rw [z1'] at d2
    obtain ⟨b, off, spot⟩ := a
    have hspot : spot = none := by
      obtain ⟨ec', e1', e2', _⟩ := a4 0 (by omega)
      rw [hc] at e1'
      simpa [Addr.add] using World.cell?_spot (e2' 0 (by omega))
    subst hspot
    have ea : ∀ o i, (⟨b, o, none⟩ : Addr).add i = ⟨b, o + i, none⟩ := fun o i => by unfold Addr.add; split <;> simp_all
    rw [ea, ea] at d0 d1 d2
    exact ⟨b, off, x, y, z, rfl, World.block_lt_of_cell? w _ d0, by simpa using d0, d1, d2, x2, bounds_u64 y2, bounds_i64 z2⟩

end Go.Proofs.Ytljdkaajlmcpkaa
