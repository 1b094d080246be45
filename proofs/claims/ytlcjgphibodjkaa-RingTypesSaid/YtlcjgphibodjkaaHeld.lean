/-
  A region that draws its order, driven by hand: copies and loads first (they yield in every world of S), the calls each where it alone may come up, the rest quiet in a smaller class. No function of the program.
-/
import Derived.Test.YtlcjgphibodjkaaBase
import Derived.Deep.RegionHeld3
namespace Go.Proofs.Ytlcjgphibodjkaa
open Go.RowKit

section
variable {P : Program} {ops : Array Oper} {Q : Exit → Act → World → Prop} {md : Region.Mode} {S C : World → Prop}

theorem wpOp_of_qOpH {i : Nat} {a : Act} {K : Act → Prop} {K' : Act → World → Prop} {w : World} (hC : C w) (h : ∀ a w', C w' → K a → K' a w') (hh : qOp P ops C i K a) : wpOp P ops Q i K' a w :=
  wpOp_of_qOp hC h hh

theorem wpAnyH_of_quiet (hS : ∀ w, C w → S w) {R : Act → Prop} (hQ : ∀ a w, C w → R a → Q .normal a w) : ∀ (fuel : Nat) (listed : Array Bool) (a : Act) (w : World), C w →
    wpAnyQ P md ops C R fuel listed a → wpAnyH P md ops Q S fuel listed a w
  | 0, _, _, _, hw, h => ⟨h.1, hQ _ _ hw h.2⟩
  | fuel + 1, _, _, _, hw, h => ⟨fun h0 => hQ _ _ hw (h.1 h0), fun i hi => wpOp_of_qOp hw (fun a' w' hw' hk => ⟨hS w' hw', wpAnyH_of_quiet hS hQ fuel _ a' w' hw' hk⟩) (h.2 i hi)⟩

/-- The rest of the region is quiet in a smaller class I: one walk of it, in the text's order. -/
theorem wpAnyH_rest {listed : Array Bool} {a : Act} {w : World} (I : World → Prop) (k : Nat) (l : List Oper) (hS : ∀ w, I w → S w) (hw : I w) (hl : ops.toList.drop k = l) (hs : Region.noSelect ops = true) (hB : Region.lexFrom md ops l.length k listed = true)
    (h : wpQuiet P ops (fun w' => ∃ x : WIn I, w' = x.val) (fun a' => ∀ w', I w' → Q .normal a' w') l a) : wpAnyH P md ops Q S l.length listed a w := by
  refine wpAnyH_of_quiet (C := fun w' => ∃ x : WIn I, w' = x.val) (R := fun a' => ∀ w', I w' → Q .normal a' w') (fun w' ⟨x, hx⟩ => hS w' (by rw [hx]; exact x.property)) (fun a' w' ⟨x, hx⟩ hr => hr w' (by rw [hx]; exact x.property)) _ _ _ _ ⟨⟨w, hw⟩, rfl⟩ ?_
  refine wpAnyQ_lex hs l k listed a (fun j => ?_) hB h
  rw [← hl, List.getElem?_drop, Array.getElem?_toList]
theorem getElem?_of_drop {l : List Oper} {i : Nat} {o : Oper} {tl : List Oper} (h : l.drop i = o :: tl) : l[i]? = some o := by
  have e := congrArg (fun x : List Oper => x[0]?) h
  simpa using e
/-- 'wpAnyH_take', the operation read off the list. -/
theorem wpAnyH_takeD {i : Nat} {oi : Oper} {tl : List Oper} {v : Value} {fuel : Nat} {listed : Array Bool} {a : Act} {w : World} (hi : ops.toList.drop i = oi :: tl)
    (hn : Region.noSelect ops = true) (hr : (Region.ready md ops listed).contains i = true) (hf : Region.free md ops listed i = true)
    (hq : ∀ c a w, Q (.panic c) (a.put oi.dst v) w → Q (.panic c) a w) (hy : YieldsIf P ops S oi v a) (hS : S w)
    (h : wpAnyH P md ops Q S fuel (listed.setIfInBounds i true) (a.put oi.dst v) w) : wpAnyH P md ops Q S (fuel + 1) listed a w :=
  wpAnyH_take (by rw [← Array.getElem?_toList]; exact getElem?_of_drop hi) hn hf hr hq hy hS h
/-- One operation alone may come up: it is carried out; behind it S holds. -/
theorem wpAnyH_one {i : Nat} {o : Oper} {tl : List Oper} {fuel : Nat} {listed : Array Bool} {a : Act} {w : World} (hi : ops.toList.drop i = o :: tl) (hr : Region.ready md ops listed = [i])
    (h : ∀ K : Act → World → Prop, Shut (∀ a w, S w → (S w → wpAnyH P md ops Q S fuel (listed.setIfInBounds i true) a w) → K a w) → if Region.wanted o (yielded ops a.tmps) = true then Oper.wp P o a w K Q else K (a.put o.dst undef) w) :
    wpAnyH P md ops Q S (fuel + 1) listed a w :=
  wpAnyH_ready (rs := [i]) hr (by simp) (AllReadyH.cons (by rw [← Array.getElem?_toList]; exact getElem?_of_drop hi) h AllReadyH.nil)
/-- Two operations may come up. -/
theorem wpAnyH_two {i j : Nat} {o o' : Oper} {tl tl' : List Oper} {fuel : Nat} {listed : Array Bool} {a : Act} {w : World} (hi : ops.toList.drop i = o :: tl) (hj : ops.toList.drop j = o' :: tl') (hr : Region.ready md ops listed = [i, j])
    (h : ∀ K : Act → World → Prop, Shut (∀ a w, S w → (S w → wpAnyH P md ops Q S fuel (listed.setIfInBounds i true) a w) → K a w) → if Region.wanted o (yielded ops a.tmps) = true then Oper.wp P o a w K Q else K (a.put o.dst undef) w)
    (h' : ∀ K : Act → World → Prop, Shut (∀ a w, S w → (S w → wpAnyH P md ops Q S fuel (listed.setIfInBounds j true) a w) → K a w) → if Region.wanted o' (yielded ops a.tmps) = true then Oper.wp P o' a w K Q else K (a.put o'.dst undef) w) :
    wpAnyH P md ops Q S (fuel + 1) listed a w :=
  wpAnyH_ready (rs := [i, j]) hr (by simp) (AllReadyH.cons (by rw [← Array.getElem?_toList]; exact getElem?_of_drop hi) h (AllReadyH.cons (by rw [← Array.getElem?_toList]; exact getElem?_of_drop hj) h' AllReadyH.nil))
end

end Go.Proofs.Ytlcjgphibodjkaa
