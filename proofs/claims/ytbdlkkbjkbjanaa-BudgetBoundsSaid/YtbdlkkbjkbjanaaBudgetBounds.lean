/-
  BudgetBounds: the walk.
-/
import Derived.Test.YtbdlkkbjkbjanaaBudget2
import Derived.Test.YtbdlkkbjkbjanaaInts
import Derived.Test.YtbdlkkbjkbjanaaGrid
import Derived.OpenShut
namespace Go.Proofs.Ytbdlkkbjkbjanaa
open Go.RowKit

/-- What was paid in ticks one behind the other. -/
def part (P : List Int) (f t : Nat) : Int := ((P.take t).drop f).sum
theorem part_same (P : List Int) (f : Nat) : part P f f = 0 := by
  unfold part
  rw [List.drop_of_length_le (by rw [List.length_take]; omega)]
  rfl
theorem part_step (P : List Int) {f t : Nat} (h : f ≤ t) (ht : t < P.length) : part P f (t + 1) = part P f t + P.getD t 0 := by
  unfold part
  rw [List.take_succ_eq_append_getElem ht, List.drop_append_of_le_length (by rw [List.length_take]; omega), List.sum_append, List.getD_eq_getElem?_getD, List.getElem?_eq_getElem ht]
  simp
theorem part_old (P : List Int) (p : Int) {f t : Nat} (ht : t ≤ P.length) : part (P ++ [p]) f t = part P f t := by
  unfold part
  rw [List.take_append_of_le_length ht]
/-- In any ticks no more than the dearest frame, grant, and grant for each; and what is left beside it. -/
structure Window (P : List Int) (l g : Int) : Prop where
  q : ∀ f t : Nat, f ≤ t → t ≤ P.length → part P f t ≤ 33282 + g + ((t : Int) - f) * g
  r : ∀ f : Nat, f ≤ P.length → part P f P.length + l ≤ 33282 + g + ((P.length : Int) - f) * g
theorem Window.start (g : Int) (hg : 1 ≤ g) : Window [] 0 g := by
  refine ⟨fun f t h1 h2 => ?_, fun f h => ?_⟩
  · have : t = 0 := by simpa using h2
    subst this
    have : f = 0 := by omega
    subst this
    rw [part_same]; simp; omega
  · have : f = 0 := by simpa using h
    subst this
    rw [show (List.length ([] : List Int)) = 0 from rfl, part_same]; simp; omega
theorem Window.next {P : List Int} {l g n p : Int} (h : Window P l g) (hn : n ≤ g) (hl0 : 0 ≤ l + n - p) (hl : l + n - p ≤ 33282 + g) : Window (P ++ [p]) (l + n - p) g := by
  have key : ∀ f : Nat, f ≤ P.length + 1 → part (P ++ [p]) f (P.length + 1) + (l + n - p) ≤ 33282 + g + (((P.length + 1 : Nat) : Int) - f) * g := by
    intro f hf
    rcases Nat.lt_or_ge P.length f with h1 | h1
    · have : f = P.length + 1 := by omega
      subst this
      rw [part_same]
      simp
      omega
    · rw [part_step _ h1 (by simp), part_old _ _ (Nat.le_refl _)]
      have h2 := h.r f h1
      have e : (P ++ [p]).getD P.length 0 = p := by simp [List.getD_eq_getElem?_getD]
      rw [e]
      have e2 : (((P.length + 1 : Nat) : Int) - f) * g = ((P.length : Int) - f) * g + g := by
        rw [show ((P.length + 1 : Nat) : Int) - f = ((P.length : Int) - f) + 1 by omega, Int.add_mul, Int.one_mul]
      rw [e2]
      omega
  have hlen : (P ++ [p]).length = P.length + 1 := by simp
  refine ⟨fun f t h1 h2 => ?_, fun f hf => by rw [hlen] at hf ⊢; exact key f hf⟩
  rw [hlen] at h2
  rcases Nat.lt_or_ge P.length t with h3 | h3
  · have : t = P.length + 1 := by omega
    subst this
    have := key f h1
    omega
  · rw [part_old _ _ h3]
    exact h.q f t h1 h3

/-- A budget, and a list that the call makes. -/
structure BdL (w0 w : World) (s B : Nat) (g l gr pd : Int) (v : Value) (P : List Int) : Prop where
  u : BudIn w0 w (s + 1) s g l gr pd
  i : Ints w B v P
  lt : s + 1 < B
  hB : B ≤ w.heap.size
theorem Ints.wrote {w w' : World} {B : Nat} {v : Value} {xs : List Int} {p : Nat → Prop} (h : Ints w B v xs) (k : Wrote p w w') (hp : ∀ j, B ≤ j → ¬ p j) : Ints w' B v xs := by
  have hg : ∀ j, v.ownBlock = some j → w'.heap[j]? = w.heap[j]? := fun j hj => k.block j (h.lt j hj).2 (hp j (h.lt j hj).1)
  refine ⟨h.1, ?_⟩
  rcases h.2 with h0 | ⟨b, cap, cur, hv, hb, hg', h3⟩
  · exact .inl h0
  · refine .inr ⟨b, cap, cur, hv, hb, ?_, h3⟩
    rw [hg b (by rw [hv]; rfl)]
    exact hg'
theorem BdL.step {w0 w w' : World} {s B : Nat} {g l gr pd l' gr' pd' : Int} {v : Value} {P : List Int} (h : BdL w0 w s B g l gr pd v P) (k : Wrote (atBud (s + 1) s) w w') (hb : Bud w' (s + 1) s g l' gr' pd') : BdL w0 w' s B g l' gr' pd' v P :=
  ⟨h.u.step k hb, h.i.wrote k (fun j hj => by have := h.lt; unfold atBud; omega), h.lt, Nat.le_trans h.hB k.size⟩
theorem BdL.quiet {w0 w w' : World} {s B : Nat} {g l gr pd : Int} {v : Value} {P : List Int} (h : BdL w0 w s B g l gr pd v P) (k : Wrote (fun _ => False) w w') : BdL w0 w' s B g l gr pd v P :=
  ⟨h.u.quiet k, h.i.wrote k (fun _ _ h => h), h.lt, Nat.le_trans h.hB k.size⟩

section
variable (w0 : World) (s B : Nat) (g l gr pd : Int) (v : Value) (P : List Int) (w : World) (h : Hid (BdL w0 w s B g l gr pd v P))
include h
theorem ztick (l2 gr2 : Int) (hl : l + tickN g l = l2) (hr : addC gr (tickN g l) = gr2) :
    Calls Try.prog 17 #[.pointer (some ⟨s + 1, 0, none⟩)] w fun e w' => e = .returned (.tuple #[]) ∧ Hid (BdL w0 w' s B g l2 gr2 pd v P) := by
  subst hl hr
  exact (utick (s + 1) s g l gr pd w h.out.u.u).mono fun _ _ ⟨he, k, hb⟩ => ⟨he, Lib.hid (h.out.step k hb)⟩
theorem zpay (n l2 pd2 : Int) (y : Bool) (hv : mayP n l = y) (hl : leftP n l = l2) (hp : paidP n l pd = pd2) :
    Calls Try.prog 19 #[.pointer (some ⟨s + 1, 0, none⟩), .int .i64 n] w fun e w' => e = .returned (.bool y) ∧ Hid (BdL w0 w' s B g l2 gr pd2 v P) := by
  subst hv hl hp
  exact (upay (s + 1) s n g l gr pd w h.out.u.u).mono fun _ _ ⟨he, k, hb⟩ => ⟨he, Lib.hid (h.out.step k hb)⟩
theorem zleft : Calls Try.prog 21 #[.pointer (some ⟨s + 1, 0, none⟩)] w fun e w' => e = .returned (.int .i64 l) ∧ Hid (BdL w0 w' s B g l gr pd v P) :=
  (uleft (s + 1) s g l gr pd w h.out.u.u).mono fun _ _ ⟨he, k⟩ => ⟨he, Lib.hid (h.out.quiet k)⟩
theorem zgranted : Calls Try.prog 22 #[.pointer (some ⟨s + 1, 0, none⟩)] w fun e w' => e = .returned (.int .u64 gr) ∧ Hid (BdL w0 w' s B g l gr pd v P) :=
  (ugranted (s + 1) s g l gr pd w h.out.u.u).mono fun _ _ ⟨he, k⟩ => ⟨he, Lib.hid (h.out.quiet k)⟩
theorem zpaid : Calls Try.prog 23 #[.pointer (some ⟨s + 1, 0, none⟩)] w fun e w' => e = .returned (.int .u64 pd) ∧ Hid (BdL w0 w' s B g l gr pd v P) :=
  (upaid (s + 1) s g l gr pd w h.out.u.u).mono fun _ _ ⟨he, k⟩ => ⟨he, Lib.hid (h.out.quiet k)⟩
end

end Go.Proofs.Ytbdlkkbjkbjanaa
