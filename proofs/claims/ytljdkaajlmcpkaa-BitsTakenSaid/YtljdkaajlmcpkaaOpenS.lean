/-
  Structs by value that came in, their fields integers. No function of the program.
-/
import Derived.Test.YtljdkaajlmcpkaaOpen
namespace Go.Proofs.Ytljdkaajlmcpkaa
open Go.RowKit Go.WideShapes Go.Deep

theorem Reads.fieldInt {w : World} {t : TypeId} {cs : List Value} {fs : Array Field} {k : IntKind} (h : Reads w t cs) (ht : Try.prog.underlying t = some (.struct fs)) (i : Nat) (f : Field) (hf : fs[i]? = some f) (hk : Try.prog.underlying f.type = some (.int k)) (hc : Try.prog.cellsOf f.type = 1) :
    ∃ z, cs[f.offset]? = some (.int k z) ∧ (Lit.int k z).wf = true := by
  have h1 := (h.struct ht).2 i f hf
  rw [hc] at h1
  obtain ⟨z, e, hw⟩ := h1.int hk
  refine ⟨z, ?_, hw⟩
  have e2 := congrArg (fun l : List Value => l[0]?) e
  simpa [List.getElem?_take, List.getElem?_drop] using e2
theorem agg_of_wide {w : World} {base : Nat} {t : TypeId} {fs : Array Field} {v : Value} (ht : Try.prog.underlying t = some (.struct fs)) (hv : Value.okWide Try.prog w .any base t v) : ∃ cs, v = .agg cs ∧ cs.size = Try.prog.cellsOf t := by
  unfold Value.okWide at hv
  rw [ht] at hv
  obtain ⟨cs, h1, h2, _⟩ := hv
  exact ⟨cs, h1, h2⟩
theorem agg3 {cs : Array Value} {a b c : Value} (h : cs.size = 3) (h0 : cs.toList[0]? = some a) (h1 : cs.toList[1]? = some b) (h2 : cs.toList[2]? = some c) : Value.agg cs = .agg #[a, b, c] := by
  obtain ⟨l⟩ := cs
  have hl : l.length = 3 := h
  match l, hl with
  | [x, y, z], _ =>
    simp at h0 h1 h2
    rw [h0, h1, h2]
theorem agg5 {cs : Array Value} {a b c d e : Value} (h : cs.size = 5) (h0 : cs.toList[0]? = some a) (h1 : cs.toList[1]? = some b) (h2 : cs.toList[2]? = some c) (h3 : cs.toList[3]? = some d) (h4 : cs.toList[4]? = some e) : Value.agg cs = .agg #[a, b, c, d, e] := by
  obtain ⟨l⟩ := cs
  have hl : l.length = 5 := h
  match l, hl with
  | [x, y, z, u, v], _ =>
    simp at h0 h1 h2 h3 h4
    rw [h0, h1, h2, h3, h4]

end Go.Proofs.Ytljdkaajlmcpkaa
