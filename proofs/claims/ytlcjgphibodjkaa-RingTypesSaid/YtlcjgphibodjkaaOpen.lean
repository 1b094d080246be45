/-
  Arguments that came in, opened: 'Reads w t cs': the cells cs read as data at type t. Integers, bools, strings, arrays, structs, slices. No function of the program.
-/
import Derived.Test.YtlcjgphibodjkaaBase
import Derived.ProofKit
import Derived.OpenShut
import Derived.Deep.Slices
namespace Go.Proofs.Ytlcjgphibodjkaa
open Go.RowKit Go.WideShapes Go.Deep

def Reads (w : World) (t : TypeId) (cs : List Value) : Prop :=
  ∃ (H : Type) (enc : TypeId × Value → H) (fuel : Nat) (x : DataW H × List MemPlace), DataW.trod enc Try.prog w 0 (fun _ => true) true fuel t cs = some x

theorem Reads.of {H : Type} {enc : TypeId × Value → H} {w : World} {t : TypeId} {v : Value} {d : DataW H} {ps : List MemPlace} (h : DataW.Trod enc Try.prog w 0 (fun _ => true) true t v d ps) : Reads w t v.cells.toList := by
  obtain ⟨fuel, hf⟩ := h
  exact ⟨H, enc, fuel, _, hf⟩
theorem Reads.int {w : World} {t : TypeId} {cs : List Value} {k : IntKind} (h : Reads w t cs) (ht : Try.prog.underlying t = some (.int k)) : ∃ n, cs = [.int k n] ∧ (Lit.int k n).wf = true := by
  obtain ⟨H, enc, fuel, x, hx⟩ := h
  obtain ⟨n, h1, _, h3⟩ := DataW.trod_int ht hx
  exact ⟨n, h1, h3⟩
theorem Reads.bool {w : World} {t : TypeId} {cs : List Value} (h : Reads w t cs) (ht : Try.prog.underlying t = some .bool) : ∃ b, cs = [.bool b] := by
  obtain ⟨H, enc, fuel, x, hx⟩ := h
  obtain ⟨n, h1, _⟩ := DataW.trod_bool ht hx
  exact ⟨n, h1⟩
theorem Reads.string {w : World} {t : TypeId} {cs : List Value} (h : Reads w t cs) (ht : Try.prog.underlying t = some .string) : ∃ s : ByteArray, cs = [.string s] ∧ s.size ≤ maxLen := by
  obtain ⟨H, enc, fuel, x, hx⟩ := h
  obtain ⟨n, h1, _, h3⟩ := DataW.trod_string ht hx
  exact ⟨n, h1, h3⟩
theorem Reads.struct {w : World} {t : TypeId} {cs : List Value} {fs : Array Field} (h : Reads w t cs) (ht : Try.prog.underlying t = some (.struct fs)) :
    cs.length = Try.prog.cellsOf t ∧ ∀ (i : Nat) (f : Field), fs[i]? = some f → Reads w f.type ((cs.drop f.offset).take (Try.prog.cellsOf f.type)) := by
  obtain ⟨H, enc, fuel, x, hx⟩ := h
  obtain ⟨xs, n, _, _, h1, h2, h3⟩ := DataW.trod_struct ht hx
  refine ⟨h1, fun i f hf => ?_⟩
  have hi : i < xs.length := by
    have := (Array.getElem?_eq_some_iff.1 hf).1
    omega
  have e := h3 i f hf
  rw [List.getElem?_eq_getElem hi] at e
  exact ⟨H, enc, n, _, e⟩
theorem Reads.array {w : World} {t e : TypeId} {cs : List Value} {n : Nat} (h : Reads w t cs) (ht : Try.prog.underlying t = some (.array n e)) :
    cs.length = Try.prog.cellsOf t ∧ ∀ i, i < n → Reads w e ((cs.drop (i * Try.prog.cellsOf e)).take (Try.prog.cellsOf e)) := by
  obtain ⟨H, enc, fuel, x, hx⟩ := h
  obtain ⟨xs, m, _, _, h1, h2, h3⟩ := DataW.trod_array ht hx
  refine ⟨h1, fun i hi => ?_⟩
  have e' := h3 i hi
  rw [List.getElem?_eq_getElem (by omega)] at e'
  exact ⟨H, enc, m, _, e'⟩
theorem mapM_some {α β : Type} {f : α → Option β} : ∀ {l : List α} {r : List β}, l.mapM f = some r → r.length = l.length ∧ ∀ (i : Nat) (h : i < l.length) (h' : i < r.length), f l[i] = some r[i]
  | [], r, h => by
    simp at h
    subst h
    exact ⟨rfl, fun i h => by simp at h⟩
  | a :: l, r, h => by
    rw [List.mapM_cons] at h
    cases hb : f a with
    | none => rw [hb] at h; simp at h
    | some b =>
      rw [hb] at h
      simp only [Option.bind_eq_bind, Option.bind_some] at h
      cases hr : l.mapM f with
      | none => rw [hr] at h; simp at h
      | some r' =>
        rw [hr] at h
        simp at h
        subst h
        obtain ⟨h1, h2⟩ := mapM_some hr
        refine ⟨by simp [h1], fun i hi hi' => ?_⟩
        cases i with
        | zero => exact hb
        | succ i => exact h2 i (by simpa using hi) (by simpa using hi')
/-- The slice: nil, or its elements lie one behind the other. -/
theorem Reads.slice {w : World} {t e : TypeId} {cs : List Value} (h : Reads w t cs) (ht : Try.prog.underlying t = some (.slice e)) :
    cs = [.slice none 0 0] ∨ ∃ (a : Addr) (len cap : Nat), cs = [.slice (some a) len cap] ∧ len ≤ cap ∧ cap ≤ maxLen ∧
      ∀ i, i < cap → ∃ ec : List Value, ec.length = Try.prog.cellsOf e ∧ (∀ j (hj : j < ec.length), w.cell? ((a.add (i * Try.prog.cellsOf e)).add j) = some ec[j]) ∧ Reads w e ec := by
  obtain ⟨H, enc, fuel, x, hx⟩ := h
  rcases open_slice ht hx with ⟨h0, _⟩ | ⟨a, len, cap, m, n, D, Pl, h1, _, h3, h4, h5, _, h7⟩
  · exact .inl h0
  · refine .inr ⟨a, len, cap, h1, h3, h4, fun i hi => ?_⟩
    obtain ⟨ec, he1, he2⟩ := h7 i (by rw [h5, if_pos rfl]; exact hi)
    unfold World.cells? at he1
    rw [if_pos (Nat.zero_le _)] at he1
    obtain ⟨l1, l2⟩ := mapM_some he1
    rw [List.length_range] at l1
    refine ⟨ec, l1, fun j hj => ?_, ⟨H, enc, n, _, he2⟩⟩
    have := l2 j (by rw [List.length_range]; omega) hj
    simpa using this

/-- An array of integers of one cell, by value. -/
theorem open_arr_ints {w : World} {base : Nat} {t e : TypeId} {n : Nat} {k : IntKind} {v : Value} (ht : Try.prog.underlying t = some (.array n e)) (he : Try.prog.underlying e = some (.int k)) (hc : Try.prog.cellsOf e = 1) (hn : Try.prog.cellsOf t = n)
    (hv : Value.okWide Try.prog w .any base t v) (hr : Reads w t v.cells.toList) : ∃ zs : List Int, zs.length = n ∧ v = .agg (zs.map (Value.int k)).toArray ∧ ∀ z ∈ zs, (Lit.int k z).wf = true := by
  obtain ⟨cs, rfl, hsz⟩ : ∃ cs, v = .agg cs ∧ cs.size = Try.prog.cellsOf t := by
    unfold Value.okWide at hv
    rw [ht] at hv
    obtain ⟨cs, h1, h2, _⟩ := hv
    exact ⟨cs, h1, h2⟩
  obtain ⟨hl, hi⟩ := hr.array ht
  have hl' : cs.toList.length = n := by rw [← hn, ← hl]; rfl
  have hcell : ∀ i (h : i < cs.toList.length), ∃ z, cs.toList[i] = .int k z ∧ (Lit.int k z).wf = true := by
    intro i h
    have hri := hi i (by omega)
    rw [hc, Nat.mul_one] at hri
    obtain ⟨z, hz, hw⟩ := hri.int he
    refine ⟨z, ?_, hw⟩
    have hz' : (cs.toList.drop i).take 1 = [Value.int k z] := hz
    rw [List.drop_eq_getElem_cons h] at hz'
    simpa using hz'
  have key : ∀ l : List Value, (∀ i (h : i < l.length), ∃ z, l[i] = .int k z ∧ (Lit.int k z).wf = true) → ∃ zs : List Int, l = zs.map (Value.int k) ∧ ∀ z ∈ zs, (Lit.int k z).wf = true := by
    intro l
    induction l with
    | nil => exact fun _ => ⟨[], rfl, fun z hz => by cases hz⟩
    | cons c l ih =>
      intro h
      obtain ⟨z, hz, hw⟩ := h 0 (by simp)
      obtain ⟨zs, h1, h2⟩ := ih (fun i hi' => h (i + 1) (by simpa using hi'))
      refine ⟨z :: zs, by rw [List.map_cons, ← h1]; congr 1, fun y hy => ?_⟩
      rcases List.mem_cons.1 hy with rfl | hy
      · exact hw
      · exact h2 y hy
  obtain ⟨zs, h1, h2⟩ := key cs.toList hcell
  refine ⟨zs, by rw [← hl', h1, List.length_map], ?_, h2⟩
  rw [← h1]
theorem list_len2 {α : Type} : ∀ {l : List α}, l.length = 2 → ∃ a0 a1, l = [a0, a1]
  | [a0, a1], _ => ⟨a0, a1, rfl⟩
theorem list_len3 {α : Type} : ∀ {l : List α}, l.length = 3 → ∃ a0 a1 a2, l = [a0, a1, a2]
  | [a0, a1, a2], _ => ⟨a0, a1, a2, rfl⟩
theorem list_len4 {α : Type} : ∀ {l : List α}, l.length = 4 → ∃ a0 a1 a2 a3, l = [a0, a1, a2, a3]
  | [a0, a1, a2, a3], _ => ⟨a0, a1, a2, a3, rfl⟩
theorem list_len5 {α : Type} : ∀ {l : List α}, l.length = 5 → ∃ a0 a1 a2 a3 a4, l = [a0, a1, a2, a3, a4]
  | [a0, a1, a2, a3, a4], _ => ⟨a0, a1, a2, a3, a4, rfl⟩
theorem list_len8 {α : Type} : ∀ {l : List α}, l.length = 8 → ∃ a0 a1 a2 a3 a4 a5 a6 a7, l = [a0, a1, a2, a3, a4, a5, a6, a7]
  | [a0, a1, a2, a3, a4, a5, a6, a7], _ => ⟨a0, a1, a2, a3, a4, a5, a6, a7, rfl⟩

end Go.Proofs.Ytlcjgphibodjkaa
