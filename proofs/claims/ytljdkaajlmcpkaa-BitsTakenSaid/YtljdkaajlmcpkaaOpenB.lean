/-
  Structs by value that came in: fields that are truth values or texts. No function of the program.
-/
import Derived.Test.YtljdkaajlmcpkaaOpenS
namespace Go.Proofs.Ytljdkaajlmcpkaa
open Go.RowKit Go.WideShapes Go.Deep

theorem Reads.fieldBool {w : World} {t : TypeId} {cs : List Value} {fs : Array Field} (h : Reads w t cs) (ht : Try.prog.underlying t = some (.struct fs)) (i : Nat) (f : Field) (hf : fs[i]? = some f) (hk : Try.prog.underlying f.type = some .bool) (hc : Try.prog.cellsOf f.type = 1) :
    ∃ z, cs[f.offset]? = some (.bool z) := by
  have h1 := (h.struct ht).2 i f hf
  rw [hc] at h1
  obtain ⟨z, e⟩ := h1.bool hk
  refine ⟨z, ?_⟩
  have e2 := congrArg (fun l : List Value => l[0]?) e
  simpa [List.getElem?_take, List.getElem?_drop] using e2
theorem Reads.fieldStr {w : World} {t : TypeId} {cs : List Value} {fs : Array Field} (h : Reads w t cs) (ht : Try.prog.underlying t = some (.struct fs)) (i : Nat) (f : Field) (hf : fs[i]? = some f) (hk : Try.prog.underlying f.type = some .string) (hc : Try.prog.cellsOf f.type = 1) :
    ∃ z : ByteArray, cs[f.offset]? = some (.string z) ∧ z.size ≤ maxLen := by
  have h1 := (h.struct ht).2 i f hf
  rw [hc] at h1
  obtain ⟨z, e, hz⟩ := h1.string hk
  refine ⟨z, ?_, hz⟩
  have e2 := congrArg (fun l : List Value => l[0]?) e
  simpa [List.getElem?_take, List.getElem?_drop] using e2

end Go.Proofs.Ytljdkaajlmcpkaa
