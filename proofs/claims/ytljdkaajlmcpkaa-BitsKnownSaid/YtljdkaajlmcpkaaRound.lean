/-
  A region that draws its order, in a round of a loop over a function: by the rules for regions that stand outside. No function of the program.
-/
import Derived.Test.YtljdkaajlmcpkaaHeld
import Derived.RangeFuncNested
import Derived.RangeFuncBound
import Derived.RangeFuncCalls
import Derived.RangeFuncLeaves
import Derived.Shelf.Abstract
import Derived.Shelf.RegionOpen
import Derived.OwnWalkIn
import Derived.TacticsInMore
import Derived.LoopNIn
import Derived.LoopIn
namespace Go.Proofs.Ytljdkaajlmcpkaa
open Go.RowKit

/-- The code behind is reached one way alone. -/
def OnlyN (Q : Exit → Act → World → Prop) : Exit → Act → World → Prop
  | .normal, a, w => Q .normal a w
  | _, _, _ => False
theorem OnlyN.normal {Q : Exit → Act → World → Prop} {a : Act} {w : World} (h : Q .normal a w) : OnlyN Q .normal a w := h
theorem OnlyN.imp {Q : Exit → Act → World → Prop} : ∀ (e : Exit) (a : Act) (w : World), OnlyN Q e a w → Q e a w := fun e a w h => by
  cases e <;> first | exact h | exact h.elim
def noDefer (ops : Array Oper) : Bool := ops.all (fun o => match o.op with | .defer _ => false | _ => true)
section
variable {P : Program} {ops : Array Oper} {Q : Exit → Act → World → Prop} {md : Region.Mode}
theorem upon_in (l n : Nat) (o : Oper) (a : Act) (K : Act → World → Prop) {r : Result Next} (h : o.upon P a K Q r) : o.uponIn (Fence.wide.inRound l) n P a K Q r := by
  cases r with
  | ok x w' =>
    cases x with
    | enter f args => exact ⟨fun e => by simp [Fence.wide] at e, (callsIn_wide.2 h).inRound l⟩
    | row row args => exact ⟨fun e => by simp [Fence.wide] at e, fun c cs _ => by
        obtain ⟨v, w'', r, s⟩ := h c cs
        exact ⟨v, w'', r, stepsIn_wide.2 s⟩⟩
    | value v => exact h
    | skip => exact h
    | defer d => exact h
    | _ => exact h.elim
  | halt x w' =>
    cases x with
    | panic v => exact h
    | _ => exact h.elim
theorem wpOp_in (l n : Nat) (hd : noDefer ops = true) (hQ : ¬ LetsOut Q) {i : Nat} {K K' : Act → World → Prop} {a : Act} {w : World} (hK : ∀ a w, K a w → K' a w) (h : wpOp P ops Q i K a w) : wpOpIn (Fence.wide.inRound l) n P ops Q i K' a w := by
  have h := wpOp_mono hK h
  unfold wpOp at h
  unfold wpOpIn
  cases ho : ops[i]? with
  | none => simpa [ho] using h
  | some o =>
    simp only [ho] at h
    have hn : ∀ c, o.op ≠ .defer c := fun c e => by
      have hm : o ∈ ops := Array.mem_of_getElem? ho
      have := (Array.all_eq_true_iff_forall_mem.1 hd) o hm
      rw [e] at this
      simp at this
    by_cases hw : Region.wanted o (yielded ops a.tmps) = true
    · simp only [hw, if_true] at h ⊢
      rcases h with h | ⟨_, h⟩
      · unfold Oper.wp at h
        refine ⟨fun _ _ => trivial, ?_⟩
        rw [Oper.semAt_eq _ _ _ hn]
        exact upon_in l n o a _ h
      · exact absurd h hQ
    · simp only [hw] at h ⊢
      exact ⟨fun _ _ => trivial, h⟩
theorem wpAny_in (l n : Nat) (hd : noDefer ops = true) (hQ : ¬ LetsOut Q) : ∀ (fuel : Nat) (listed : Array Bool) (a : Act) (w : World), wpAny P md ops Q fuel listed a w → wpAnyIn (Fence.wide.inRound l) n P md ops Q fuel listed a w
  | 0, _, _, _, h => h
  | fuel + 1, _, _, _, h => ⟨h.1, fun i hi => wpOp_in l n hd hQ (fun a' w' h' => wpAny_in l n hd hQ fuel _ a' w' h') (h.2 i hi)⟩
theorem letsOut_only : ¬ LetsOut (OnlyN Q) := fun ⟨_, _, h⟩ => h
/-- A region that draws its order, in a round: S holds in every world on the way. -/
theorem wpIn_region_round (l n : Nat) (S : World → Prop) {id : Nat} {a : Act} {w : World} (hm : P.follows .mixedOrders = true) (hd : noDefer ops = true) (hS : S w.drew)
    (h : S w.drew → wpAnyH P .any ops (OnlyN Q) S ops.size (Array.replicate ops.size false) a w.drew) : (Code.region id ops true).wpIn (Fence.wide.inRound l) n P Q a w :=
  wpIn_mono (wpIn_region_any hm (wpAny_in l n hd letsOut_only _ _ _ _ (wpAny_of_held _ _ _ _ (h hS)))) OnlyN.imp
end

end Go.Proofs.Ytljdkaajlmcpkaa
